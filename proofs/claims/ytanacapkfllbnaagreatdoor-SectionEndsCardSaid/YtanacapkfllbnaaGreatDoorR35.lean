/-
  LAYER 6's REFERENCE: a code in memory; Make.
  CONDITIONS: lists of at most 10^9 numbers.
-/
import Derived.Test.YtanacapkfllbnaaGreatDoorR16
import Derived.Test.YtanacapkfllbnaaGreatDoorR31
import Derived.Test.YtanacapkfllbnaaGreatDoorR11
set_option maxRecDepth 100000
set_option maxHeartbeats 4000000
namespace Go.Proofs.YtanacapkfllbnaaGreatDoor
open Go.RowKit

def WRow (w:World) (P:Nat→Prop) (hi:Nat) (ws:List (List Bool)) (l:List Value):Prop:=
 l.length=ws.length∧∀ (i:Nat) (u:List Bool),ws[i]? = some u→∃ (ad:Addr) (c:Nat),l[i]? = some (.slice (some ad) u.length c)∧u.length≤c∧P ad.block∧ad.block < hi∧Rd w hi (some ad) (u.map .bool)
theorem WRow.nil (w:World) (P:Nat→Prop) (hi:Nat):WRow w P hi [] []:=⟨rfl,fun i u h=>by simp at h⟩
theorem WRow.kp {w w':World} {P:Nat→Prop} {hi:Nat} {ws:List (List Bool)} {l:List Value} {S:List Nat} (h:WRow w P hi ws l) (hk:Kp S w w') (hS:∀ g ∈ S,¬ P g ∨ hi≤g):WRow w' P hi ws l:=by
 refine ⟨h.1,fun i u hu=>?_⟩;obtain ⟨ad,c,h1,h2,h3,h4,h5⟩:=h.2 i u hu
 exact ⟨ad,c,h1,h2,h3,h4,h5.kp_ne hk (fun a ha hm=>by
  injection ha with ha
  subst ha;rcases hS _ hm with h | h
  ·exact h h3
  ·omega)⟩
theorem WRow.mono {w:World} {P P':Nat→Prop} {hi hi':Nat} {ws:List (List Bool)} {l:List Value} (h:WRow w P hi ws l) (h1:∀ g,g < hi→P g→P' g) (h2:hi≤hi'):WRow w P' hi' ws l:=by
 refine ⟨h.1,fun i u hu=>?_⟩;obtain ⟨ad,c,a1,a2,a3,a4,a5⟩:=h.2 i u hu;exact ⟨ad,c,a1,a2,h1 _ a4 a3,by omega,a5.bound h2⟩
theorem WRow.snoc {w:World} {P:Nat→Prop} {hi c:Nat} {ws:List (List Bool)} {l:List Value} {u:List Bool} {ad:Addr} (h:WRow w P hi ws l) (h2:u.length≤c) (h3:P ad.block) (h4:ad.block < hi) (h5:Rd w hi (some ad) (u.map .bool)):WRow w P hi (ws ++ [u]) (l ++ [.slice (some ad) u.length c]):=by
 refine ⟨by rw [List.length_append,List.length_append,h.1];rfl,fun i v hv=>?_⟩;by_cases hi':i < ws.length
 ·rw [List.getElem?_append_left hi'] at hv;rw [List.getElem?_append_left (by rw [h.1];exact hi')];exact h.2 i v hv
 ·rw [List.getElem?_append_right (by omega)] at hv;rw [List.getElem?_append_right (by rw [h.1];omega),h.1]
  have hz:i - ws.length=0:=by
   have:=(List.getElem?_eq_some_iff.1 hv).1
   simp at this
   omega
  rw [hz] at hv ⊢
  simp at hv
  subst hv;exact ⟨ad,c,rfl,h2,h3,h4,h5⟩
def wordsT (T:CT):List (List Bool):=(T.al []).map Prod.snd
def RCode (w:World) (lo hi p:Nat) (T:CT) (sg:List Nat) (ls:List Int):Prop:=
 CodeT T sg ls∧lo≤p∧p < hi∧∃ (A1 A2 A3:Addr) (c1 c2 c3:Nat) (l:List Value),Blk w p 84 [.slice (some A1) sg.length c1,.slice (some A2) ls.length c2,.slice (some A3) sg.length c3]∧sg.length≤c1∧ls.length≤c2∧sg.length≤c3 ∧
  lo≤A1.block∧lo≤A2.block∧lo≤A3.block∧Rd w hi (some A1) (sg.map fun (x:Nat)=>.int .i64 (x:Int))∧Rd w hi (some A2) (ls.map (.int .i64))∧Rd w hi (some A3) l∧WRow w (fun g=>lo≤g) hi (wordsT T) l
theorem Rd.kpR {w w':World} {lo hi:Nat} {A:Addr} {xs:List Value} {S:List Nat} (h:Rd w hi (some A) xs) (hl:lo≤A.block) (hk:Kp S w w') (hS:∀ g ∈ S,g < lo ∨ hi≤g):Rd w' hi (some A) xs:=by
 intro i u hu;obtain ⟨ad,e,hb,hc⟩:=h i u hu;injection e with e
 subst e;refine ⟨_,rfl,hb,hk.cell hc (fun hm=>?_)⟩;rw [addr_add_block] at hm;rcases hS _ hm with h | h <;> omega
theorem RCode.kp {w w':World} {lo hi p:Nat} {T:CT} {sg:List Nat} {ls:List Int} {S:List Nat} (h:RCode w lo hi p T sg ls) (hk:Kp S w w') (hS:∀ g ∈ S,g < lo ∨ hi≤g):RCode w' lo hi p T sg ls:=by
 obtain ⟨h1,h2,h3,A1,A2,A3,c1,c2,c3,l,h4,h5,h6,h7,l1,l2,l3,r1,r2,r3,hw⟩:=h;exact ⟨h1,h2,h3,A1,A2,A3,c1,c2,c3,l,h4.kp hk (fun hm=>by rcases hS _ hm with h | h <;> omega),h5,h6,h7,l1,l2,l3,r1.kpR l1 hk hS,r2.kpR l2 hk hS,r3.kpR l3 hk hS,hw.kp hk (fun g hg=>by rcases hS g hg with h | h;exact .inl (by omega);exact .inr h)⟩
theorem RCode.kp0 {w w':World} {lo hi p:Nat} {T:CT} {sg:List Nat} {ls:List Int} (h:RCode w lo hi p T sg ls) (hk:Kp [] w w'):RCode w' lo hi p T sg ls:=h.kp hk (by simp)
theorem RCode.low {w:World} {lo lo' hi p:Nat} {T:CT} {sg:List Nat} {ls:List Int} (h:RCode w lo hi p T sg ls) (h1:lo'≤lo):RCode w lo' hi p T sg ls:=by
 obtain ⟨h1',h2,h3,A1,A2,A3,c1,c2,c3,l,h4,h5,h6,h7,l1,l2,l3,r1,r2,r3,hw⟩:=h;exact ⟨h1',by omega,h3,A1,A2,A3,c1,c2,c3,l,h4,h5,h6,h7,by omega,by omega,by omega,r1,r2,r3,hw.mono (fun g _ hg=>by omega) (Nat.le_refl _)⟩
theorem RCode.cells {w:World} {lo hi p:Nat} {T:CT} {sg:List Nat} {ls:List Int} (h:RCode w lo hi p T sg ls):∃ (n:Nat) (A1 A2 A3:Addr) (c1 c2 c3:Nat) (l:List Value),n=sg.length∧n=ls.length∧(wordsT T).length=n∧w.cell? ⟨p,0,none⟩=some (.slice (some A1) n c1)∧w.cell? ⟨p,1,none⟩=some (.slice (some A2) n c2)∧w.cell? ⟨p,2,none⟩=some (.slice (some A3) n c3)∧n≤c1∧n≤c2∧n≤c3 ∧
  Rd w hi (some A1) (sg.map fun (x:Nat)=>.int .i64 (x:Int))∧Rd w hi (some A2) (ls.map (.int .i64))∧Rd w hi (some A3) l∧WRow w (fun g=>lo≤g) hi (wordsT T) l:=by
 obtain ⟨h1,h2,h3,A1,A2,A3,c1,c2,c3,l,h4,h5,h6,h7,l1,l2,l3,r1,r2,r3,hw⟩:=h;have e:sg.length=ls.length:=by rw [← h1.1,← h1.2.1,List.length_map,List.length_map]
 rw [← e] at h4 h6;exact ⟨sg.length,A1,A2,A3,c1,c2,c3,l,rfl,e,by unfold wordsT;rw [List.length_map,← h1.1,List.length_map],by rw [h4.cell];rfl,by rw [h4.cell];rfl,by rw [h4.cell];rfl,h5,h6,h7,r1,r2,r3,hw⟩
theorem words_first {T:CT} {sg:List Nat} {ls:List Int} (h:CodeT T sg ls) {l0:Nat} (h0:ls[0]? = some (l0:Int)):(wordsT T)[0]? = some (List.replicate l0 false):=by
 have hx:∃ s k tl,T.al []=(s,List.replicate k false) :: tl:=by
  rcases h.2.2.2.2.2 with ⟨a,b,e,ha,hb,_⟩ | ⟨s,e,_⟩
  ·obtain ⟨s,k,tl,e2⟩:=al_first (T:=T) (by rw [e];exact ⟨ha,hb⟩) [];exact ⟨s,k,tl,e2⟩
  ·exact ⟨s,1,[],by rw [e];rfl⟩
 obtain ⟨s,k,tl,e⟩:=hx;have h1:=h.2.1;rw [e] at h1;rw [← h1] at h0
 simp at h0
 unfold wordsT;rw [e]
 simp
 omega
theorem words_next {T:CT} {sg:List Nat} {ls:List Int} (h:CodeT T sg ls) {i m:Nat} {u:List Bool} (hu:(wordsT T)[i]? = some u) (hm:ls[i+1]? = some (m:Int)):(wordsT T)[i+1]? = some (nextW u m):=by
 rw [← h.2.1,List.getElem?_map] at hm;obtain ⟨y,hy,hym⟩:=Option.map_eq_some_iff.1 hm;unfold wordsT at hu ⊢;rw [List.getElem?_map] at hu ⊢;obtain ⟨x,hx,rfl⟩:=Option.map_eq_some_iff.1 hu;rcases h.2.2.2.2.2 with ⟨a,b,e,ha,hb,_⟩ | ⟨s,e,_⟩
 ·have:=al_next (T:=T) (by rw [e];exact ⟨ha,hb⟩) [] i x y hx hy;rw [hy]
  show some y.2=_
  rw [this]
  congr 2
  omega
 ·rw [e] at hy
  simp [CT.al] at hy
end Go.Proofs.YtanacapkfllbnaaGreatDoor
