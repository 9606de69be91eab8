/-
  sort.Search over a predicate that draws at most.
  CONDITIONS: as it says.
-/
import Derived.Test.YtpmdfklhgabfgaaQ07
import Derived.RegionTactic
import Derived.Deep.DeepCutAuto
namespace Go.Proofs.Ytpmdfklhgabfgaa
open Go.RowKit

/-- A call of a function that has a body enters it. -/
theorem enters_fn {P : Program} {f : FuncId} {fn : Func} {c : Code} (hf : P.funcs[f]? = some fn) (hname : (fn.name == "runtime.NumGoroutine") = false) (hb : fn.body = some c) (args : Array Value) (w : World) : (callFunc f args).run P w = .ok (.enter f args) w := by
  have h1 : fn.name ≠ "runtime.NumGoroutine" := by simpa using hname
  simp [callFunc, hf, h1, hb, mark]

end Go.Proofs.Ytpmdfklhgabfgaa
