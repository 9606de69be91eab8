/-
  HOW THE ARGUMENTS OF A STATEMENT ARE OPENED: a slice of numbers, a slice of slices of numbers, with the form's own reach as a bound on each length.
  A SLICE OF WHATEVER ELEMENTS OPENED, element by element; a struct's fields.
  CONDITIONS: as each lemma says.
-/
import Derived.Test.YtanacapkfllbnaaGreatDoorQ00
import Derived.ProofKit
import Derived.OpenShut
import Derived.SizedLaws
import Derived.Deep.Matrix
set_option maxRecDepth 100000
set_option maxHeartbeats 4000000
namespace Go.Proofs.YtanacapkfllbnaaGreatDoor
open Go.ChangeShapes Go.WideShapes Go.ChangeAt Go.RowKit Go.Deep

theorem byte_wf {x:Int} (h:(Lit.int .u8 x).wf=true):0≤x∧x≤255:=by
  simpa [Lit.wf,IntKind.min,IntKind.max,IntKind.signed,IntKind.bits] using h

section
variable {H:Type} {enc:TypeId × Value→H} {P:Program} {W:World}
theorem block_of_cell {A:Addr} {i:Nat} {v:Value} (h:W.cell? (A.add i)=some v):A.block < W.heap.size:=by
  have:=World.block_lt_of_cell? W _ h
  rwa [addr_add_block] at this

theorem open_row {t e:TypeId} {k:IntKind} {A:Option Addr} {n c bytes:Nat} {d:DataW H} {p:List MemPlace} (ht:P.underlying t=some (.slice e)) (he:P.underlying e=some (.int k)) (hc:P.cellsOf e=1) (hb:P.bytesOf e=bytes)
    (h:DataW.Trod enc P W 0 (fun _=>true) true t (.slice A n c) d p) (hw:∀ q ∈ d.weights P t,q≤reachBytes) :
    ∃ xs:List Int,Rd W W.heap.size A (xs.map (.int k))∧xs.length=n∧n≤c∧n * bytes≤140737488351232∧∀ x ∈ xs,(Lit.int k x).wf=true:=by
  obtain ⟨fuel,hf⟩:=h;rcases open_ints ht he hc hf with ⟨hcs,_⟩ | ⟨a,len,cap,zs,hcs,_,hl,hm,hz,hx,hcell,hwz⟩
  · simp [Value.cells] at hcs
    obtain ⟨rfl,rfl,rfl⟩:=hcs;exact ⟨[],Rd.nil _ _ _,rfl,Nat.le_refl _,by omega,by simp⟩
  · simp [Value.cells] at hcs
    obtain ⟨rfl,rfl,rfl⟩:=hcs;simp only [if_true] at hz
    have hd:d=.slice (lits k (zs.take n)) (lits k (zs.drop n)):=by simp only [Prod.mk.injEq] at hx;exact hx.1
    have hw1:=hw ((n + (c - n)) * bytes) (by rw [hd];simp [DataW.weights,ht,lits,hz,Nat.min_eq_left hl,hb]);refine ⟨zs.take n,fun i u hu=>?_,by rw [List.length_take,hz];omega,hl,?_,fun x hx=>hwz x (List.mem_of_mem_take hx)⟩
    · rw [List.getElem?_map,List.getElem?_take] at hu
      split at hu
      · rename_i hi
        have hc1:=hcell i (by omega);rw [List.getElem?_eq_getElem (by omega)] at hu
        simp at hu
        subst hu;rw [List.getD_eq_getElem?_getD,List.getElem?_eq_getElem (by omega)] at hc1;exact ⟨a,rfl,block_of_cell hc1,hc1⟩
      · simp at hu
    · have:n * bytes≤(n + (c - n)) * bytes:=Nat.mul_le_mul_right _ (by omega);unfold reachBytes at hw1;omega

end
end Go.Proofs.YtanacapkfllbnaaGreatDoor
namespace Go.Proofs.YtanacapkfllbnaaGreatDoor
open Go.ChangeShapes Go.WideShapes Go.ChangeAt Go.RowKit Go.Deep

section
variable {H:Type} {enc:TypeId × Value→H} {P:Program} {W:World}
end
theorem int_wf_ {x:Int} (h:(Lit.int .i64 x).wf=true):-9223372036854775808≤x∧x≤9223372036854775807:=by
  simpa [Lit.wf,IntKind.min,IntKind.max,IntKind.signed,IntKind.bits] using h
end Go.Proofs.YtanacapkfllbnaaGreatDoor
