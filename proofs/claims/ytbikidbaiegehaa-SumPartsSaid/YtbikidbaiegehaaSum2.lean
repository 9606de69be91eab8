/-
  THE CONTRACTS OF PACKAGE sum AND OF ITS REFERENCE, second text: Of, Seal, Open; the reference's Of, Join, Seal, Open.
  CONDITIONS: bytes in all at most 10^9.
-/
import Derived.Test.YtbikidbaiegehaaSum
namespace Go.Proofs.Ytbikidbaiegehaa
open Go.RowKit

set_option maxHeartbeats 1000000 in
/-- sum.Of: the sum of bytes, one row behind the other. -/
theorem of_any (A : Option Addr) (n c B : Nat) (xss : List (List Int)) (w : World) (hx : RdRows w B .u8 A xss) (hB : B ≤ w.heap.size) (hn : xss.length = n) (hb : n ≤ 1000000000) (hf : xss.flatten.length ≤ 1000000000) (hby : ∀ xs ∈ xss, Byt xs) :
    Calls Try.prog 19 #[.slice A n c] w fun e w' => e = .returned (.int .u32 ((crc xss.flatten : Nat) : Int)) ∧ Kp [] w w' := by
  have HN := Lib.hid hn; clear hn
  have HX := Lib.hid hx; clear hx
  have HBY := Lib.hid hby; clear hby
  have hlt : crcFrom 4294967295 xss.flatten < 4294967296 := crcFrom_lt (by omega) (byt_flat HBY.out)
  go_enter Try.func19, Try.ntmps19
  go_wp2_with fail
  refine (begun_any _).mono ?_
  rintro e w1 ⟨g, rfl, hg, hk1, hr1⟩
  have HK1 := Lib.hid hk1; clear hk1
  have HR1 := Lib.hid hr1; clear hr1
  go_wp2_with fail
  refine (take_any g A n c B xss _ _ HR1.out (by omega) (HX.out.kp0 HK1.out) (by omega) HN.out hb hf HBY.out).mono ?_
  rintro e w2 ⟨rfl, hk2, hr2⟩
  have hk3 : Kp [] w w2 := HK1.out.trans' hk2 (by simp; exact hg)
  have HK3 := Lib.hid hk3; clear hk3 hk2
  have HC := Lib.hid (show crc xss.flatten = crcFrom 4294967295 xss.flatten ^^^ 4294967295 from rfl)
  obtain ⟨q, hq⟩ : ∃ q, q = crc xss.flatten := ⟨_, rfl⟩
  rw [← hq] at HC
  have HQ := Lib.hid hq; clear hq
  generalize crcFrom 4294967295 xss.flatten = p at *
  have h0 : w2.cell? ⟨g, 0, none⟩ = some (.int .u32 p) := by rw [Blk.cell hr2]; rfl
  clear hr2
  have hxor : bits .xor .u32 IntKind.u32.max (p : Int) = (q : Int) := by
    show bits .xor .u32 4294967295 (p : Int) = (q : Int)
    rw [HC.out, Nat.xor_comm]
    exact u32_xor_nat 4294967295 p (by omega) hlt
  go_wp2
  go_ret
  exact ⟨by rw [← HQ.out]; rfl, HK3.out⟩
/-- What four bytes of a number are, in the walk's spelling. -/
theorem le4_vals (q : Nat) (h : q < 4294967296) : (le4 q).map (Value.int .u8) = [.int .u8 ((q : Int) % 256), .int .u8 ((q : Int) / 256 % 256), .int .u8 ((q : Int) / 65536 % 256), .int .u8 ((q : Int) / 16777216)] := by
  simp [le4]
  omega

set_option maxHeartbeats 1000000 in
/-- sum.Seal. -/
theorem seal_any (A : Option Addr) (n c B : Nat) (xss : List (List Int)) (w : World) (hx : RdRows w B .u8 A xss) (hB : B ≤ w.heap.size) (hn : xss.length = n) (hb : n ≤ 1000000000) (hf : xss.flatten.length ≤ 1000000000) (hby : ∀ xs ∈ xss, Byt xs) :
    Calls Try.prog 16 #[.slice A n c] w fun e w' => ∃ A' c', e = .returned (.slice A' (xss.flatten.length + 4) c') ∧ w'.ownsRow w.heap.size 5 1 (.slice A' (xss.flatten.length + 4) c') (xss.flatten.length + 4) ((sealed xss.flatten).map (.int .u8)) ∧ Kp [] w w' := by
  obtain ⟨i0, hi, hz0, hz1, hz2⟩ := info_parts Try.info_u8
  have HN := Lib.hid hn; clear hn
  have HX := Lib.hid hx; clear hx
  have HBY := Lib.hid hby; clear hby
  have hlt := crc_lt (byt_flat HBY.out)
  go_enter Try.func16, Try.ntmps16
  go_wp2_with fail
  refine (of_any A n c B xss _ HX.out hB HN.out hb hf HBY.out).mono ?_
  rintro e w1 ⟨rfl, hk1⟩
  have HK1 := Lib.hid hk1; clear hk1
  obtain ⟨q, hq⟩ : ∃ q, q = crc xss.flatten := ⟨_, rfl⟩
  rw [← hq] at hlt ⊢
  have HQ := Lib.hid hq; clear hq
  go_wp2_with fail
  refine (concatB A n c B xss _ (HX.out.kp0 HK1.out) HN.out hb hf).mono ?_
  rintro e w2 ⟨A2, c2, rfl, hown, hk2⟩
  have HK2 := Lib.hid hk2; clear hk2
  have HO := Lib.hid hown; clear hown
  obtain ⟨N, hN⟩ : ∃ N, N = xss.flatten.length := ⟨_, rfl⟩
  rw [← hN] at hf ⊢
  have HNN := Lib.hid hN; clear hN
  go_wp2_with (at_builtin; refine wpList_append_rd rfl (.tmp 7) (.tmp 19) 23 rfl w1.heap.size 5 i0 (.int .u8 0) 1 1 Try.underlying23 hi hz0 hz1 hz2 rfl (by decide) _ N (xss.flatten.map (.int .u8)) rfl (by rw [HNN.out]; exact HO.out.alloc _) _ _ 4 4 ((le4 q).map (.int .u8)) rfl (by simp [le4]) (by rw [le4_vals _ hlt]; exact (Blk.new w2 5 _).rd (Nat.lt_succ_self _)) (by simp [Value.oneCell']) (by unfold maxLen; omega) (by omega) (by have := HK2.out.size; simp; omega) ?_; intro v3 w3 hown3 hgrow3 hat3)
  have hk3 : Kp [] w w3 := (HK1.out.trans (HK2.out.alloc _)).grown hgrow3 (fun g hg => .inr (by have := (own_ge HO.out (by rw [← HNN.out]; exact hg)).1; have := HK1.out.size; omega))
  obtain ⟨A3, c3, rfl, _⟩ := own_form hown3
  have HO3 := Lib.hid hown3; clear hown3
  clear hgrow3 hat3
  go_wp2
  go_ret
  refine ⟨A3, c3, by rw [← HNN.out]; rfl, ?_, hk3⟩
  have h := own_base HO3.out HK1.out.size
  rw [HQ.out, ← List.map_append] at h
  rw [← HNN.out]
  exact h
end Go.Proofs.Ytbikidbaiegehaa
