/-
  A ROW OF BOOLS OPENED; THE TABLE THAT THE ROW LISTS, as cells.
  A ROW OF BOOLS OPENED, with the bound that the reach gives.
  A ROW OF DEEDS (ossuarylaw01.Deed): in memory, and opened.
  CONDITIONS: as each lemma says.
-/
import Derived.Test.YtanacapkfllbnaaGreatDoorR05
import Derived.Test.YtanacapkfllbnaaGreatDoorR18
import Derived.Test.YtanacapkfllbnaaGreatDoorRows
import Derived.Deep.Grids
import Derived.LaidMore
import Derived.Lay
import Derived.ProofKit
set_option maxRecDepth 100000
set_option maxHeartbeats 4000000
namespace Go.Proofs.YtanacapkfllbnaaGreatDoor
open Go.ChangeShapes Go.WideShapes Go.ChangeAt Go.RowKit

theorem tab64_of_laid {W:World} (h:laidMetH Tryz.prog [("math/bits.deBruijn64tab",Rows.laid_math_bits_deBruijn64tab)] W):Tab64 W:=by
 rw [MakeChecks.laidMetH_plain _ _ _ (by kernel_rfl)] at h;obtain ⟨ps,⟨g,t,cs,fuel,p,q,hg,ht,hv,hd,_,_⟩,_,_⟩:=h;obtain rfl:=Option.some.inj ((show Tryz.prog.globalNamed "math/bits.deBruijn64tab" = some 0 by kernel_rfl).symm.trans hg);obtain rfl:=Option.some.inj ((show (Tryz.prog.globals[0]?).map (·.type)=some 244 by kernel_rfl).symm.trans ht);obtain ⟨xs,m,_,ex,_,hl,hel⟩:=DataW.trod_array Tryz.underlying244 hd;have c5:Tryz.prog.cellsOf 5=1:=by kernel_rfl
 have hlen:dbTab.length=64:=by kernel_rfl
 intro r v hrv;have hr:r < 64:=by rw [← hlen];exact (List.getElem?_eq_some_iff.1 hrv).1
 have hE:=hel r hr;rw [c5,Nat.mul_one,List.getElem?_eq_getElem (by omega)] at hE;obtain ⟨z,e1,e2,_⟩:=DataW.trod_int Tryz.underlying5 hE;have e3:(xs.map (·.1))=dbTab.map fun n=>.lit (.int .u8 n):=(DataW.agg.inj (Prod.mk.inj ex).1).symm
 have e4:(xs.map (·.1))[r]? = (dbTab.map fun n=>(DataW.lit (.int .u8 n):DataW Unit))[r]? := by rw [e3]
 rw [List.getElem?_map,List.getElem?_map,List.getElem?_eq_getElem (by omega:r < xs.length),hrv,e2] at e4
 have hz:z=v:=by
  simpa only [Option.map_some,Option.some.injEq,DataW.lit.injEq,Lit.int.injEq,true_and] using e4
 subst hz;rw [World.var?_cell hg hv r]
 have:cs.toList[r]? = some (.int .u8 z):=by
  have h0:((cs.toList.drop r).take 1)[0]? = some (.int .u8 z):=by rw [e1];rfl
  simpa using h0
 simpa using this
end Go.Proofs.YtanacapkfllbnaaGreatDoor
namespace Go.Proofs.YtanacapkfllbnaaGreatDoor
open Go.ChangeShapes Go.WideShapes Go.ChangeAt Go.RowKit Go.Deep

end Go.Proofs.YtanacapkfllbnaaGreatDoor
