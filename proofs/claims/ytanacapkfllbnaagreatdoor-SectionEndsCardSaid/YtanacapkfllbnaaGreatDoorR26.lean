/-
  bytes.Equal, of two rows of bytes.
  CONDITIONS: the rows are not nil.
-/
import Derived.Test.YtanacapkfllbnaaGreatDoorR23
import Derived.Lib.Strings
import Derived.Lib.Bytes
import Derived.Laws.BytesArg
set_option maxRecDepth 100000
set_option maxHeartbeats 4000000
namespace Go.Proofs.YtanacapkfllbnaaGreatDoor
open Go.RowKit

theorem conv_rd {P:Program} (w:World) (src e:TypeId) (hs:P.underlying src=some (.slice e)) (he:P.underlying e=some (.int .u8)) (ad:Addr) (B n c:Nat) (xs:List Int) (hn:xs.length=n) (hx:Rd w B (some ad) (xs.map (.int .u8))) (dst:TypeId) (hd:P.underlying dst=some .string) :
  (convert src dst (.slice (some ad) n c)).run P w=.ok (.string (strOfNums xs)) w:=by
 have hl:(loadCells ad n).run P w=.ok (xs.map (Value.int .u8)).toArray w:=by
  have:=run_loadCells_list (P:=P) w ad (xs.map (Value.int .u8)) (fun j v hj=>by
   obtain ⟨ad',e',_,hc⟩:=hx j v hj;injection e' with e'
   subst e'
   exact hc)
  simpa [hn] using this
 rw [run_convert_bytes_string w src dst e _ n c hs he hd,run_bytesToString w _ n c xs hl,foldl_push_bytes]
 simp [strOfNums,ByteArray.empty,ByteArray.emptyWithCapacity]
 rfl
theorem bytes_inj:∀ {xs ys:List Int},(∀ x ∈ xs,0≤x∧x < 256)→(∀ x ∈ ys,0≤x∧x < 256)→(Lib.bytesOf xs == Lib.bytesOf ys)=decide (xs=ys)
 | [],[],_,_=>rfl
 | [],y :: ys,_,_=>rfl
 | x :: xs,[],_,_=>rfl
 | x :: xs,y :: ys,h1,h2=>by
   have ih:=bytes_inj (fun z hz=>h1 z (List.mem_cons_of_mem _ hz)) (fun z hz=>h2 z (List.mem_cons_of_mem _ hz));obtain ⟨a,b⟩:=h1 x List.mem_cons_self;obtain ⟨c,d⟩:=h2 y List.mem_cons_self;unfold Lib.bytesOf at ih ⊢;rw [List.map_cons,List.map_cons,List.cons_beq_cons,ih];by_cases hxy:x=y
   ·subst hxy
    simp
   ·have hne:(UInt8.ofNat x.toNat == UInt8.ofNat y.toNat)=false:=by
     rw [beq_eq_false_iff_ne];intro e;have:=congrArg UInt8.toNat e;simp only [UInt8.toNat_ofNat'] at this
     omega
    rw [hne]
    simp [hxy]
theorem beq_any (a1 a2:Addr) (B1 B2 n m c d:Nat) (xs ys:List Int) (w:World) (hx:Rd w B1 (some a1) (xs.map (.int .u8))) (hy:Rd w B2 (some a2) (ys.map (.int .u8))) (hn:xs.length=n) (hm:ys.length=m) (h1:∀ x ∈ xs,0≤x∧x < 256) (h2:∀ x ∈ ys,0≤x∧x < 256) :
  Calls Tryz.prog 103 #[.slice (some a1) n c,.slice (some a2) m d] w fun e w'=>e=.returned (.bool (decide (xs=ys)))∧w=w':=by
 have e1:=conv_rd (P:=Tryz.prog) w 41 5 Tryz.underlying41 Tryz.underlying5 a1 B1 n c xs hn hx 9 Tryz.underlying9;have e2:=conv_rd (P:=Tryz.prog) w 41 5 Tryz.underlying41 Tryz.underlying5 a2 B2 m d ys hm hy 9 Tryz.underlying9;have HE:=Lib.hid (show ((strOfNums xs).toList == (strOfNums ys).toList)=decide (xs=ys) by rw [Lib.strOfNums_toList,Lib.strOfNums_toList,bytes_inj h1 h2]);clear hx hy h1 h2
 go_enter Tryz.func103,Tryz.ntmps103
 go_wp2_with fail;go_ret;exact ⟨by rw [← HE.out];rfl,rfl⟩
end Go.Proofs.YtanacapkfllbnaaGreatDoor
