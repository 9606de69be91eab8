/-
  append OF A MAKE ('append(s, make([]T, k)...)') onto a row of the call's own, elements of one cell.
  CONDITIONS: as it says.
-/
import Derived.Test.YtanacapkfllbnaaGreatDoorR00
import Derived.Lib.AppendZerosOnto
set_option maxRecDepth 100000
set_option maxHeartbeats 4000000
namespace Go.Proofs.YtanacapkfllbnaaGreatDoor
open Go.RowKit

theorem zeroCells_list (z:Value) (hz:z.cells=#[z]) (k:Nat):Builtin.zeroCells z.cells k=(List.replicate k z).toArray:=by
 rw [hz]
 apply Array.ext'
 apply List.ext_getElem?
 intro i;simp only [Builtin.zeroCells,List.size_toArray,List.length_cons,List.length_nil,Nat.zero_add,Nat.mul_one,Nat.mod_one]
 by_cases h:i < k
 ·simp [h]
 ·rw [List.getElem?_eq_none (by simp;omega),List.getElem?_eq_none (by simp;omega)]
theorem run_append_zeros_own {P:Program} (w:World) (base:Nat) (t tn ty e:TypeId) (i:TypeInfo) (z:Value) (bytes:Nat) (ht:P.underlying t=some (.slice e)) (htn:P.underlying tn=some (.int .i64)) (hi:P.info? e=some i) (hz:i.zero=some z)
  (hsize:i.size=1) (hby:i.bytes=bytes) (hzc:z.cells=#[z]) (h1:z.oneCell'=true) (v:Value) (n:Nat) (xs:List Value) (hown:w.ownsRow base e 1 v n xs) (k:Nat)
  (h63:n+k≤maxLen) (hbytes:(n+k) * bytes≤140737488355328) (hbase:base≤w.heap.size) :
  ∃ v' w',(Builtin.append_ #[t,tn] ty #[v,.int .i64 (k:Int)]).run P w=.ok v' w'∧w'.ownsRow base e 1 v' (n+k) (xs ++ List.replicate k z)∧w.grownBy w' v.ownBlock∧(v'.ownBlock=v.ownBlock ∨ v'.ownBlock=some w.heap.size):=by
 subst hby;have hsmall:n+k≤9223372036854775807:=by simp only [maxLen] at h63;omega
 have hw:IntKind.i64.wrap (k:Int)=k:=by rw [IntKind.wrap_i64];omega
 have hneg:¬ ((k:Int) < 0):=by omega
 have hkb:k * i.bytes≤140737488355328:=Nat.le_trans (Nat.mul_le_mul_right _ (by omega)) hbytes
 have h48i:¬ (281474976710656 < (k:Int) * (i.bytes:Int)):=by
  rw [← Int.natCast_mul];omega
 by_cases hk:k=0
 ·subst hk;have hw0:IntKind.i64.wrap 0=0:=by rw [IntKind.wrap_i64];omega
  refine ⟨v,w,?_,by simpa using hown,World.grownBy.refl w _,.inl rfl⟩;rcases hown.2 with ⟨rfl,rfl⟩ | ⟨g,cap,cur,rfl,_,_,hnc,_⟩
  ·simp [Builtin.append_,run_underlying ht,run_underlying htn,sizeOf,typeInfo,hi,asInt,asIntOf,hw0]
  ·simp [Builtin.append_,run_underlying ht,run_underlying htn,sizeOf,typeInfo,hi,asInt,asIntOf,hw0,hnc,storeCells]
 have hxl:=hown.1;rw [Nat.mul_one] at hxl
 have grown:∀ (old:Nat),old < n+k→∀ (row:Option Nat) (olds:Array Value),olds=xs.toArray →
   (w.drew.alloc (.cells (olds ++ Builtin.zeroCells z.cells k ++ Builtin.zeroCells z.cells (grownCap w (n+k) old e - (n+k))) e)).ownsRow base e 1 (.slice (some ⟨w.heap.size,0,none⟩) (n+k) (grownCap w (n+k) old e)) (n+k) (xs ++ List.replicate k z) ∧
   w.grownBy (w.drew.alloc (.cells (olds ++ Builtin.zeroCells z.cells k ++ Builtin.zeroCells z.cells (grownCap w (n+k) old e - (n+k))) e)) row:=by
  intro old ho row olds hol;subst hol;have hge:=grownCap_ge w (n+k) old e;have hcm:grownCap w (n+k) old e≤maxLen:=grownCap_le_maxLen w (n+k) old e h63;refine ⟨?_,⟨rfl,rfl,rfl,by simp,fun q hq _=>heap_alloc_old w.drew _ hq⟩⟩;rw [zeroCells_list z hzc,zeroCells_list z hzc];refine own_of_blk (xs:=xs ++ List.replicate k z) (rest:=List.replicate (grownCap w (n+k) old e - (n+k)) z) ?_ hbase hge hcm (by rw [List.length_append,hxl,List.length_replicate];omega) (by simp [hxl];omega);have:=heap_alloc_new w.drew (.cells (xs.toArray ++ (List.replicate k z).toArray ++ (List.replicate (grownCap w (n+k) old e - (n+k)) z).toArray) e)
  have e1:xs.toArray ++ (List.replicate k z).toArray ++ (List.replicate (grownCap w (n+k) old e - (n+k)) z).toArray=(xs ++ List.replicate k z ++ List.replicate (grownCap w (n+k) old e - (n+k)) z).toArray:=by
   apply Array.ext'
   simp
  rw [e1] at this ⊢;exact this
 rcases own_blk hown with ⟨rfl,rfl,rfl⟩ | ⟨g,cap,rest,rfl,hbg,hB,hnc,hcm,_,hlen⟩
 ·have hr:=Lib.run_append_grow_zeros (P:=P) w t tn ty e i z .i64 .i64 ht htn hi hz none 0 0 [] (run_firstCells_none _ _ _ _ _) k (by omega) (by omega) (by omega) (by omega) (by omega) (growslice_fits (by omega) hbytes);have hgr:=grown 0 (by omega) (Value.ownBlock (.slice none 0 0)) [].toArray rfl;rw [Nat.zero_add] at hr hgr ⊢;exact ⟨_,_,hr,hgr.1,hgr.2,.inr rfl⟩
 ·by_cases hroom:n+k≤cap
  ·rw [Nat.mul_one] at hlen;have hst:=run_storeCells_at P g n e (List.replicate k z) 0 (xs ++ rest).toArray w hB (by simp at hlen ⊢;omega) (fun u hu=>by rw [List.eq_of_mem_replicate hu];exact h1);simp only [Nat.add_zero] at hst
   have hns:¬ (k * i.size=0):=Nat.mul_ne_zero hk (by omega);refine ⟨.slice (some ⟨g,0,none⟩) (n+k) cap,w.setRow g ((xs ++ rest).take n ++ List.replicate k z ++ (xs ++ rest).drop (n+k)).toArray,?_,?_,?_,.inl rfl⟩
   ·have hst':(storeCells ⟨g,n,none⟩ (Builtin.zeroCells z.cells k).toList 0).run P w=.ok () (w.setRow g ((xs ++ rest).take n ++ List.replicate k z ++ (xs ++ rest).drop (n+k)).toArray):=by
     rw [zeroCells_list z hzc];simpa using hst
    simp [Builtin.append_,run_underlying ht,run_underlying htn,sizeOf,typeInfo,zeroValue,hi,hz,hsize,asInt,asIntOf,hw,hneg,h48i,hroom,hk,Addr.add_lit,hst']
   ·refine own_of_blk (xs:=xs ++ List.replicate k z) (rest:=(xs ++ rest).drop (n+k)) ?_ hbg hroom hcm (by rw [List.length_append,hxl,List.length_replicate,Nat.mul_one]) (by simp [hxl] at hlen ⊢;omega);have:=setRow_heap w g (xs ++ rest).toArray ((xs ++ rest).take n ++ List.replicate k z ++ (xs ++ rest).drop (n+k)).toArray e _ hB;unfold Blk;rw [List.take_left' hxl] at this ⊢;exact this
   ·exact ⟨rfl,rfl,rfl,by simp,fun q _ hq=>setRow_other w g q _ (fun e=>hq (by simp [Value.ownBlock,e]))⟩
  ·have hfc:=run_firstCells_some (P:=P) w.drew i.size n ⟨g,0,none⟩ n cap xs (by rw [hxl,hsize,Nat.mul_one]) (fun j u hu=>by
    have:=own_rd hown j u hu;obtain ⟨ad,e,_,hc⟩:=this;injection e with e
    subst e
    exact hc)
   have hr:=Lib.run_append_grow_zeros (P:=P) w t tn ty e i z .i64 .i64 ht htn hi hz (some ⟨g,0,none⟩) n cap xs hfc k (by omega) (by omega) (by omega) (by omega) (by omega) (growslice_fits (by omega) hbytes);have hgr:=grown cap (by omega) (Value.ownBlock (.slice (some ⟨g,0,none⟩) n cap)) xs.toArray rfl;exact ⟨_,_,hr,hgr.1,hgr.2,.inr rfl⟩
theorem wpList_append_zeros {P:Program} {w:World} {ops:Array Oper} {rest:List Oper} {o:Oper} {a:Act} {Q:Exit→Act→World→Prop} (hgd:o.guard=none) (s x:Operand) (t tn:TypeId)
  (ho:o.op=.call { callee:=.builtin .append,args:=#[s,x],argTypes:=#[t,tn] })
  (base:Nat) (e:TypeId) (i:TypeInfo) (z:Value) (bytes:Nat) (ht:P.underlying t=some (.slice e)) (htn:P.underlying tn=some (.int .i64)) (hi:P.info? e=some i) (hz:i.zero=some z)
  (hsize:i.size=1) (hby:i.bytes=bytes) (hzc:z.cells=#[z]) (h1:z.oneCell'=true) (v:Value) (n:Nat) (xs:List Value) (hs:a.eval s=v) (hown:w.ownsRow base e 1 v n xs) (k:Nat) (hx:a.eval x=.int .i64 (k:Int))
  (h63:n+k≤maxLen) (hbytes:(n+k) * bytes≤140737488355328) (hbase:base≤w.heap.size)
  (h:∀ v' w',w'.ownsRow base e 1 v' (n+k) (xs ++ List.replicate k z)→w.grownBy w' v.ownBlock→(v'.ownBlock=v.ownBlock ∨ v'.ownBlock=some w.heap.size)→wpList P ops Q rest (a.put o.dst v') w') :
  wpList P ops Q (o :: rest) a w:=by
 obtain ⟨v',w',hr,h2,h3,h4⟩:=run_append_zeros_own (P:=P) w base t tn o.type e i z bytes ht htn hi hz hsize hby hzc h1 v n xs hown k h63 hbytes hbase;exact Lib.wpList_append_run w hgd s x t tn ho _ _ hs hx v' w' hr (h v' w' h2 h3 h4)
end Go.Proofs.YtanacapkfllbnaaGreatDoor
