/-
  append THAT FINDS NO ROOM, as one step of a region by facts: a new row, nothing else changes.
  Appends onto a full row of which one reads (turned from the text Rte).
  CONDITIONS: as each lemma says.
-/
import Derived.Test.YtanacapkfllbnaaGreatDoorR04
import Derived.Test.YtanacapkfllbnaaGreatDoorR00
import Derived.ArgAppend
set_option maxRecDepth 100000
set_option maxHeartbeats 4000000
namespace Go.Proofs.YtanacapkfllbnaaGreatDoor
open Go.RowKit

section
variable {P:Program} {w:World}
end
theorem Rd.part {w:World} {B:Nat} {A:Option Addr} {k:IntKind} {xs ys:List Int} (h:Rd w B A ((xs ++ ys).map (.int k))):Rd w B A (xs.map (.int k)):=by
 have:=h.take (xs.map (Value.int k)).length
 rwa [List.map_append,List.take_left'] at this
 rfl
end Go.Proofs.YtanacapkfllbnaaGreatDoor
namespace Go.Proofs.YtanacapkfllbnaaGreatDoor
open Go.RowKit

theorem wpList_append_full {P:Program} {w:World} {ops:Array Oper} {rest:List Oper} {o:Oper} {a:Act} {Q:Exit→Act→World→Prop} (hgd:Region.wanted o (yielded ops a.tmps)=true) (s x:Operand) (t:TypeId)
  (ho:o.op=.call { callee:=.builtin .append,args:=#[s,x],argTypes:=#[t,t] })
  (e:TypeId) (i:TypeInfo) (z:Value) (size bytes:Nat) (ht:P.underlying t=some (.slice e)) (hi:P.info? e=some i) (hz:i.zero=some z) (hsize:i.size=size) (hby:i.bytes=bytes) (hzs:z.cells.size=size) (hsz:0 < size)
  (b:Addr) (n cap B B':Nat) (xs ys:List Value) (he1:a.eval s=.slice (some b) n cap) (hl:xs.length=n * size) (hr:Rd w B (some b) xs)
  (ad:Addr) (m c:Nat) (he2:a.eval x=.slice (some ad) m c) (hm:ys.length=m * size) (hr2:Rd w B' (some ad) ys)
  (hfull:cap < n+m) (b1:n+m≤maxLen) (b2:(n+m) * bytes≤140737488355328)
  (h:∀ v' w',w'.ownsRow w.heap.size e size v' (n+m) (xs ++ ys)→Kp [] w w'→wpList P ops Q rest (a.put o.dst v') w'):wpList P ops Q (o :: rest) a w:=
 BigFrame.wpList_want hgd fun _ hK=>by
  have hc:∀ {A:Addr} {B:Nat} {zs:List Value},Rd w B (some A) zs→∀ j u,zs[j]? = some u→w.cell? (A.add j)=some u:=by
   intro A B zs hr j u hu;obtain ⟨ad',e',_,hc⟩:=hr j u hu;injection e' with e'
   subst e';exact hc
  obtain ⟨v',w',hrun,r1,r2⟩:=run_append_arg_grows (P:=P) w t o.type e i z size bytes ht hi hz hsize hby hzs hsz b n cap xs hl (hc hr) ad m c ys hm (hc hr2) hfull b1 b2;have hk:Kp [] w w':=(Kp.refl [] w).grown r2 (by simp);unfold Oper.wp
  simp [execOp,ho,resolve,invoke,builtin,he1,he2,hrun,Result.andThen]
  exact hK _ _ (h v' w' r1 hk)
end Go.Proofs.YtanacapkfllbnaaGreatDoor
