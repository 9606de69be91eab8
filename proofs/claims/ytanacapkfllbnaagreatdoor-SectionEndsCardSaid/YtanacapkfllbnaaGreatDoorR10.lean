/-
  sort.Search over a predicate that draws at most.
  CONDITIONS: as it says.
-/
import Derived.Test.YtanacapkfllbnaaGreatDoorR07
import Derived.RegionTactic
import Derived.Deep.DeepCutAuto
set_option maxRecDepth 100000
set_option maxHeartbeats 4000000
namespace Go.Proofs.YtanacapkfllbnaaGreatDoor
open Go.RowKit

theorem enters_fn {P:Program} {f:FuncId} {fn:Func} {c:Code} (hf:P.funcs[f]? = some fn) (hname:(fn.name == "runtime.NumGoroutine")=false) (hb:fn.body=some c) (args:Array Value) (w:World):(callFunc f args).run P w=.ok (.enter f args) w:=by
 have h1:fn.name ≠ "runtime.NumGoroutine" := by simpa using hname
 simp [callFunc,hf,h1,hb,mark]

set_option maxHeartbeats 2000000 in
theorem search_any (g n:Nat) (lb:Array Value) (p:Nat→Bool) (w:World) (eg:∀ args w,(callFunc g args).run Tryz.prog w=.ok (.enter g args) w) (hsz:n < 4611686018427387904)
  (hf:∀ (w':World) (i:Nat),Dr w w'→i < n→Calls Tryz.prog g (#[.int .i64 i] ++ lb) w' fun e w''=>e=.returned (.bool (p i))∧Dr w' w'')
  (hmono:∀ a b,a≤b→b < n→p a=true→p b=true) :
  Calls Tryz.prog 82 #[.int .i64 n,.func (.func g) #[] lb] w fun e w'=>∃ k:Nat,e=.returned (.int .i64 (k:Int))∧k≤n∧(∀ t,t < k→p t=false)∧(∀ t,k≤t→t < n→p t=true)∧Dr w w':=by
 have HF:=Lib.hid hf;clear hf;have HMO:=Lib.hid hmono;clear hmono
 go_enter Tryz.func82,Tryz.ntmps82
 go_wp2_with fail
 go_loopw [5,6] (fun x y wr=>∃ lo hi:Nat,x=.int .i64 (lo:Int)∧y=.int .i64 (hi:Int)∧lo≤hi∧hi≤n∧Hid (∀ t,t < lo→p t=false)∧Hid (∀ t,hi≤t→t < n→p t=true)∧Hid (Dr w wr)) (fun x y _=>(intOf y).toNat - (intOf x).toNat)
 case atStart=>exact ⟨0,n,rfl,rfl,by omega,by omega,Lib.hid (fun t ht=>absurd ht (Nat.not_lt_zero _)),Lib.hid (fun t h1 h2=>absurd h2 (by omega)),Lib.hid (Dr.refl w)⟩
 case round =>
  obtain ⟨lo,hi,rfl,rfl,hlh,hhn,HLO,HHI,HD⟩:=hrel;by_cases hlt:lo < hi
  ·obtain ⟨h,hh⟩:∃ h,h=(lo+hi) / 2:=⟨_,rfl⟩;have hw1:IntKind.i64.wrap ((lo:Int)+(hi:Int))=((lo+hi:Nat):Int):=by rw [IntKind.wrap_i64];omega
   have hw2:IntKind.u64.wrap ((lo:Int)+(hi:Int))=((lo+hi:Nat):Int):=by
    have:IntKind.u64.wrap ((lo:Int)+(hi:Int))=((lo:Int)+(hi:Int)) % 18446744073709551616:=by simp [IntKind.wrap,IntKind.signed,IntKind.bits]
    rw [this];omega
   have hdv:((lo:Int)+(hi:Int)) / 2=(h:Int):=by omega
   have hwh:IntKind.i64.wrap (h:Int)=(h:Int):=by rw [IntKind.wrap_i64];omega
   have hwu:IntKind.u64.wrap (h:Int)=(h:Int):=by
    have:IntKind.u64.wrap (h:Int)=(h:Int) % 18446744073709551616:=by simp [IntKind.wrap,IntKind.signed,IntKind.bits]
    rw [this];omega
   have hhb:lo≤h∧h < hi:=by omega
   have hc:=HF.out wr h HD.out (by omega);clear hh
   cases hp:p h <;> rw [hp] at hc
   ·have HP:=Lib.hid hp;clear hp;go_wp2_with fail;refine hc.mono ?_;rintro e w' ⟨rfl,hd⟩;have HD2:=Lib.hid (HD.out.trans hd);clear hd;go_wp2_with fail;refine ⟨⟨h+1,hi,by go_num,rfl,by omega,hhn,Lib.hid (fun t ht=>?_),HHI,HD2⟩,by simp [intOf];omega⟩
    cases h2:p t with
    | false=>rfl
    | true =>
      have:=HMO.out t h (by omega) (by omega) h2;rw [HP.out] at this
      cases this
   ·have HP:=Lib.hid hp;clear hp;go_wp2_with fail;refine hc.mono ?_;rintro e w' ⟨rfl,hd⟩;have HD2:=Lib.hid (HD.out.trans hd);clear hd;go_wp2_with fail;exact ⟨⟨lo,h,rfl,rfl,by omega,by omega,HLO,Lib.hid (fun t h1 h2=>HMO.out h t h1 h2 HP.out),HD2⟩,by simp [intOf];omega⟩
  ·obtain rfl:hi=lo:=by omega
   go_wp2_with fail;go_ret;exact ⟨hi,rfl,hhn,HLO.out,HHI.out,HD.out⟩

end Go.Proofs.YtanacapkfllbnaaGreatDoor
