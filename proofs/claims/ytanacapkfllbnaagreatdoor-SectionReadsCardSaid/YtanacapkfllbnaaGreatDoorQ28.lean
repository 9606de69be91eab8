/-
  HOW TEXTS AMONG THE ARGUMENTS ARE OPENED: a slice of strings, a string, a slice of truths, with the form's own reach as a bound.
  CONDITIONS: none beyond each lemma's own.
-/
import Derived.Test.YtanacapkfllbnaaGreatDoorQ05
import Derived.Test.YtanacapkfllbnaaGreatDoorQ27
import Derived.SliceStrings
set_option maxRecDepth 100000
set_option maxHeartbeats 4000000
namespace Go.Proofs.YtanacapkfllbnaaGreatDoor
open Go.ChangeShapes Go.WideShapes Go.ChangeAt Go.RowKit Go.Deep

section
variable {H:Type} {enc:TypeId × Value→H} {P:Program} {W:World}
theorem open_text {r:Reach} {b0:Nat} {t:TypeId} {v:Value} {d:DataW H} {p:List MemPlace} (ht:P.underlying t=some .string) (hval:Value.okWide P W r b0 t v)
    (h:DataW.Trod enc P W 0 (fun _=>true) true t v d p) (hw:∀ q ∈ d.weights P t,q≤reachBytes) :
    ∃ s:ByteArray,v=.string s∧d=.lit (.string s.data.toList)∧p=[]∧s.size≤maxLen∧s.size≤140737488351232:=by
  obtain ⟨s,rfl⟩:=okWide_string ht hval;obtain ⟨fuel,hf⟩:=h;have hf':DataW.trod enc P W 0 (fun _=>true) true fuel t [.string s]=some (d,p):=hf;obtain ⟨s',h1,h2,h3⟩:=DataW.trod_string ht hf';simp only [List.cons.injEq,Value.string.injEq,and_true] at h1
  subst h1;simp only [Prod.mk.injEq] at h2
  obtain ⟨rfl,rfl⟩:=h2;have hlen:=hw s.data.toList.length (by simp [DataW.weights]);unfold reachBytes at hlen;have:s.size=s.data.toList.length:=by rw [Array.length_toList];rfl
  exact ⟨s,rfl,rfl,rfl,h3,by omega⟩
theorem shut_text {t:TypeId} {s:ByteArray} {base:Nat} {sp:Nat→Bool} {held:Bool} (ht:P.underlying t=some .string) (hs:s.size≤maxLen):DataW.Trod enc P W base sp held t (.string s) (.lit (.string s.data.toList)) []:=
  ⟨1,by simp [DataW.trod,Value.cells,ht,hs]⟩
end
end Go.Proofs.YtanacapkfllbnaaGreatDoor
