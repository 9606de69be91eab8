/-
  LAYER 1's library: bits.OnesCount64.
  CONDITIONS: a number of 64 bits.
-/
import Derived.Test.YtldmabkilgpgcaaMBits
import Derived.Test.YtldmabkilgpgcaaMWord
import Derived.Test.YtldmabkilgpgcaaKit
import Derived.Test.YtldmabkilgpgcaaRegA
import Derived.Laws.BitsAllLaws
import Derived.Laws.Bits128
namespace Go.Proofs.Ytldmabkilgpgcaa
open Go.RowKit

set_option maxRecDepth 10000 in
set_option maxHeartbeats 1000000 in
theorem ones_any (x : Nat) (w : World) (hx : x < 2 ^ 64) :
    Calls Try.prog 70 #[.int .u64 x] w fun e w' => e = .returned (.int .i64 (popN 64 x : Nat)) ∧ w = w' := by
  obtain ⟨x2, hx2⟩ : ∃ x2, x2 = x / 2 := ⟨_, rfl⟩
  obtain ⟨a1, ha1⟩ : ∃ a1, a1 = x2 &&& 6148914691236517205 := ⟨_, rfl⟩
  obtain ⟨a2, ha2⟩ : ∃ a2, a2 = x &&& 6148914691236517205 := ⟨_, rfl⟩
  obtain ⟨a, ha⟩ : ∃ a, a = a1 + a2 := ⟨_, rfl⟩
  obtain ⟨a4, ha4⟩ : ∃ a4, a4 = a / 4 := ⟨_, rfl⟩
  obtain ⟨b1, hb1⟩ : ∃ b1, b1 = a4 &&& 3689348814741910323 := ⟨_, rfl⟩
  obtain ⟨b2, hb2⟩ : ∃ b2, b2 = a &&& 3689348814741910323 := ⟨_, rfl⟩
  obtain ⟨b, hb⟩ : ∃ b, b = b1 + b2 := ⟨_, rfl⟩
  obtain ⟨b16, hb16⟩ : ∃ b16, b16 = b / 16 := ⟨_, rfl⟩
  obtain ⟨bb, hbb⟩ : ∃ bb, bb = b16 + b := ⟨_, rfl⟩
  obtain ⟨c, hc⟩ : ∃ c, c = bb &&& 1085102592571150095 := ⟨_, rfl⟩
  obtain ⟨c8, hc8⟩ : ∃ c8, c8 = c / 256 := ⟨_, rfl⟩
  obtain ⟨d, hd⟩ : ∃ d, d = c + c8 := ⟨_, rfl⟩
  obtain ⟨d16, hd16⟩ : ∃ d16, d16 = d / 65536 := ⟨_, rfl⟩
  obtain ⟨e, he⟩ : ∃ e, e = d + d16 := ⟨_, rfl⟩
  obtain ⟨e32, he32⟩ : ∃ e32, e32 = e / 4294967296 := ⟨_, rfl⟩
  obtain ⟨f, hf⟩ : ∃ f, f = e + e32 := ⟨_, rfl⟩
  obtain ⟨r, hr⟩ : ∃ r, r = f % 128 := ⟨_, rfl⟩
  have hs := swar hx (a := a) (b := b) (c := c) (d := d) (e := e) (f := f) (by rw [ha, ha1, ha2, hx2]) (by rw [hb, hb1, hb2, ha4]) (by rw [hc, hbb, hb16]) (by rw [hd, hc8]) (by rw [he, hd16]) (by rw [hf, he32])
  obtain ⟨hs1, hs2, hs3, hs4, hs5, hs6, hs7⟩ := hs
  rw [← hs1, ← hr]
  have q1 : (x : Int) / 2 = (x2 : Int) := by omega
  have q2 : bits .and .u64 (x2 : Int) 6148914691236517205 = (a1 : Int) := by rw [ha1]; exact u64_and_nat x2 6148914691236517205 (by omega) (by omega)
  have q3 : bits .and .u64 (x : Int) 6148914691236517205 = (a2 : Int) := by rw [ha2]; exact u64_and_nat x 6148914691236517205 (by omega) (by omega)
  have q4 : IntKind.u64.wrap ((a1 : Int) + (a2 : Int)) = (a : Int) := by rw [← Int.natCast_add, ← ha]; exact u64_wrap_small hs6
  have q5 : (a : Int) / 4 = (a4 : Int) := by omega
  have q6 : bits .and .u64 (a4 : Int) 3689348814741910323 = (b1 : Int) := by rw [hb1]; exact u64_and_nat a4 3689348814741910323 (by omega) (by omega)
  have q7 : bits .and .u64 (a : Int) 3689348814741910323 = (b2 : Int) := by rw [hb2]; exact u64_and_nat a 3689348814741910323 (by omega) (by omega)
  have q8 : IntKind.u64.wrap ((b1 : Int) + (b2 : Int)) = (b : Int) := by rw [← Int.natCast_add, ← hb]; exact u64_wrap_small hs7
  have q9 : (b : Int) / 16 = (b16 : Int) := by omega
  have q10 : IntKind.u64.wrap ((b16 : Int) + (b : Int)) = (bb : Int) := by rw [← Int.natCast_add, ← hbb]; exact u64_wrap_small (by rw [hbb, hb16]; exact hs5)
  have q11 : bits .and .u64 (bb : Int) 1085102592571150095 = (c : Int) := by rw [hc]; exact u64_and_nat bb 1085102592571150095 (by omega) (by omega)
  have q12 : (c : Int) / 256 = (c8 : Int) := by omega
  have q13 : IntKind.u64.wrap ((c : Int) + (c8 : Int)) = (d : Int) := by rw [← Int.natCast_add, ← hd]; exact u64_wrap_small hs4
  have q14 : (d : Int) / 65536 = (d16 : Int) := by omega
  have q15 : IntKind.u64.wrap ((d : Int) + (d16 : Int)) = (e : Int) := by rw [← Int.natCast_add, ← he]; exact u64_wrap_small hs3
  have q16 : (e : Int) / 4294967296 = (e32 : Int) := by omega
  have q17 : IntKind.u64.wrap ((e : Int) + (e32 : Int)) = (f : Int) := by rw [← Int.natCast_add, ← hf]; exact u64_wrap_small (by omega)
  have q18 : IntKind.i64.wrap (f : Int) = (f : Int) := by rw [IntKind.wrap_i64]; omega
  have q19 : bits .and .i64 (f : Int) 127 = (r : Int) := by rw [i64_and127, hr]; omega
  clear hs1 hs2 hs3 hs4 hs5 hs6 hs7 hx2 ha1 ha2 ha ha4 hb1 hb2 hb hb16 hbb hc hc8 hd hd16 he he32 hf hr hx
  go_enter Try.func70, Try.ntmps70
  go_wp2_with fail
  go_ret
  exact ⟨rfl, rfl⟩
end Go.Proofs.Ytldmabkilgpgcaa
