/-
  GENERAL LEMMAS ON MEMORY, with no program in sight: what a slice that came in reads as ('Rd'), a block that is known whole ('Blk'), and which blocks a stretch of work may have changed ('Kp').
  PLAIN MATHEMATICS OF LAYER 1: bits as one number; ones set, struck, counted, found; the sum of a word's ones, eight bytes at once.
  LAYER 15 (tree), plain: sides, quarters, levels.
  PLAIN MATHEMATICS OF LAYER 2: words as one number; digits put, digits got.
  PLAIN MATHEMATICS OF LAYER 2, second part: a number's bytes, bit by bit.
  PLAIN MATHEMATICS OF LAYER 5: the least cost of a row over all cuts, the first cut that reaches it, and that this cut lies between those of the two shorter rows (the quadrangle inequality).
  PLAIN MATHEMATICS OF LAYER 5, second part: the lengths that the cuts give, the depths of a tree's leaves, and what the two ways to tell them answer.
  PLAIN MATHEMATICS OF LAYER 6: a tree of words, its words in order, the next word, what bits lead to, what a text's bits are.
  WORDS IN MEMORY: what a block of words of 64 bits holds, as plain numbers.
  What Text answers, as a value.
  CONDITIONS: as each lemma says.
-/
import Derived.WalkKit
import Derived.Deep.Draws
import Derived.Maps.AppendAt
import Derived.Lib.Hide
import Derived.Deep.QuietTactic
import Derived.OwnWalk
set_option maxRecDepth 100000
set_option maxHeartbeats 4000000
namespace Go.Proofs.YtanacapkfllbnaaGreatDoor
open Go.RowKit

theorem addr_add_zero (a:Addr):a.add 0=a:=by simp [Addr.add]
theorem addr_add_block (a:Addr) (n:Nat):(a.add n).block=a.block:=by unfold Addr.add;split <;> rfl
theorem addr_add_add (a:Addr) (i j:Nat):(a.add i).add j=a.add (i+j):=by
 unfold Addr.add;by_cases hi:i=0 <;> by_cases hj:j=0 <;> simp [hi,hj,Nat.add_assoc]
theorem addr_lit_add (g o n:Nat):(⟨g,o,none⟩:Addr).add n=⟨g,o+n,none⟩:=by
 unfold Addr.add;split <;> simp_all

structure Kp (S:List Nat) (w w':World):Prop where
 os:w'.os=w.os
 tape:w'.tape=w.tape
 output:w'.output=w.output
 size:w.heap.size≤w'.heap.size
 block:∀ k,k < w.heap.size→k ∉ S→w'.heap[k]? = w.heap[k]?

theorem Kp.refl (S:List Nat) (w:World):Kp S w w:=⟨rfl,rfl,rfl,Nat.le_refl _,fun _ _ _=>rfl⟩
theorem Kp.trans {S:List Nat} {a b c:World} (h:Kp S a b) (k:Kp S b c):Kp S a c:=
 ⟨k.os.trans h.os,k.tape.trans h.tape,k.output.trans h.output,Nat.le_trans h.size k.size,
  fun i hi hn=>(k.block i (Nat.lt_of_lt_of_le hi h.size) hn).trans (h.block i hi hn)⟩
theorem Kp.trans' {S T:List Nat} {a b c:World} (h:Kp S a b) (k:Kp T b c) (hT:∀ g ∈ T,g ∈ S ∨ a.heap.size≤g):Kp S a c:=
 ⟨k.os.trans h.os,k.tape.trans h.tape,k.output.trans h.output,Nat.le_trans h.size k.size,
  fun i hi hn=>(k.block i (Nat.lt_of_lt_of_le hi h.size) (fun hm=>by rcases hT i hm with h1 | h1;exact hn h1;omega)).trans (h.block i hi hn)⟩
theorem Kp.mono {S T:List Nat} {a b:World} (h:Kp S a b) (hs:∀ g ∈ S,g ∈ T):Kp T a b:=
 ⟨h.os,h.tape,h.output,h.size,fun i hi hn=>h.block i hi (fun hm=>hn (hs i hm))⟩
theorem Kp.nil {T:List Nat} {a b:World} (h:Kp [] a b):Kp T a b:=h.mono (by simp)
theorem Kp.drewN {S:List Nat} {a b:World} (h:Kp S a b) (n:Nat):Kp S a (b.drewN n):=⟨h.os,h.tape,h.output,h.size,h.block⟩
theorem Kp.drew {S:List Nat} {a b:World} (h:Kp S a b):Kp S a b.drew:=⟨h.os,h.tape,h.output,h.size,h.block⟩
theorem Kp.alloc {S:List Nat} {a b:World} (h:Kp S a b) (o:Obj):Kp S a (b.alloc o):=
 ⟨h.os,h.tape,h.output,by have:=h.size;simp;omega,fun i hi hn=>(Below.heap_alloc b o i (Nat.lt_of_lt_of_le hi h.size)).trans (h.block i hi hn)⟩
theorem Kp.setCell {S:List Nat} {a b:World} (h:Kp S a b) {p:Addr} (hp:p.block ∈ S ∨ a.heap.size≤p.block) (u:Value):Kp S a (b.setCell p u):=
 ⟨h.os,h.tape,h.output,by simpa using h.size,fun i hi hn=>(Below.heap_setCell b p u i (by
  rintro rfl;rcases hp with hp | hp
  ·exact hn hp
  ·omega)).trans (h.block i hi hn)⟩
theorem Kp.grown {S:List Nat} {a b c:World} {row:Option Nat} (h:Kp S a b) (g:b.grownBy c row) (hr:∀ k,row=some k→k ∈ S ∨ a.heap.size≤k):Kp S a c:=
 ⟨g.os.trans h.os,g.tape.trans h.tape,g.output.trans h.output,Nat.le_trans h.size g.size,
  fun i hi hn=>(g.block i (Nat.lt_of_lt_of_le hi h.size) (fun e=>by
   rcases hr i e.symm with h1 | h1
   ·exact hn h1
   ·omega)).trans (h.block i hi hn)⟩
theorem Kp.below {a b:World} (h:Kp [] a b):Below a.heap.size a b:=⟨h.os,h.tape,h.output,h.size,fun k hk=>h.block k hk (by simp)⟩
theorem Kp.of_drewN (w:World) (n:Nat):Kp [] w (w.drewN n):=(Kp.refl _ _).drewN n
theorem Kp.cell {S:List Nat} {a b:World} (h:Kp S a b) {p:Addr} {v:Value} (hc:a.cell? p=some v) (hp:p.block ∉ S):b.cell? p=some v:=
 (World.cell?_of_block (h.block p.block (World.block_lt_of_cell? a p hc) hp)).trans hc

theorem oc_ints (k:IntKind) (l:List Int):∀ u ∈ l.map (Value.int k),u.oneCell'=true:=by
 intro u hu;obtain ⟨x,_,rfl⟩:=List.mem_map.1 hu;rfl
def Dr (w w':World):Prop:=∃ d,w'=w.drewN d
theorem Dr.refl (w:World):Dr w w:=⟨0,rfl⟩
theorem Dr.trans {a b c:World} (h:Dr a b) (k:Dr b c):Dr a c:=by
 obtain ⟨d,rfl⟩:=h;obtain ⟨e,rfl⟩:=k;exact ⟨d+e,by rw [World.drewN_drewN]⟩
theorem Dr.drewN {a b:World} (h:Dr a b) (n:Nat):Dr a (b.drewN n):=h.trans ⟨n,rfl⟩
theorem Dr.drew {a b:World} (h:Dr a b):Dr a b.drew:=h.trans ⟨1,rfl⟩
theorem Dr.heap {a b:World} (h:Dr a b):b.heap=a.heap:=by obtain ⟨d,rfl⟩:=h;rfl
theorem Dr.size {a b:World} (h:Dr a b):b.heap.size=a.heap.size:=by rw [h.heap]
theorem Dr.kp {a b:World} (h:Dr a b) (S:List Nat):Kp S a b:=by obtain ⟨d,rfl⟩:=h;exact (Kp.refl S a).drewN d
theorem Dr.cell {a b:World} (h:Dr a b) (p:Addr):b.cell? p=a.cell? p:=by obtain ⟨d,rfl⟩:=h;rfl
theorem Dr.free {a b:World} (h:Dr a b) (p:Addr):b.frozen? p=a.frozen? p:=by obtain ⟨d,rfl⟩:=h;rfl
theorem quiet_dr {P:Program} {f:FuncId} {args:Array Value} {w:World} {n:Nat} {v:Value} (h:Calls P f args (w.drewN n) fun e w'=>e=.returned v∧Dr (w.drewN n) w') :
  Calls P f args (w.drewN n) fun e w''=>e=.returned v∧∃ m,w''=w.drewN m:=
 h.mono fun _ _ ⟨he,m,hm⟩=>⟨he,n+m,by rw [hm,World.drewN_drewN]⟩
theorem quiet_eq {P:Program} {f:FuncId} {args:Array Value} {w:World} {n:Nat} {v:Value} (h:Calls P f args (w.drewN n) fun e w'=>e=.returned v∧w.drewN n=w') :
  Calls P f args (w.drewN n) fun e w''=>e=.returned v∧∃ m,w''=w.drewN m:=
 h.mono fun _ _ ⟨he,hm⟩=>⟨he,n,hm.symm⟩

def Rd (w:World) (B:Nat) (A:Option Addr) (xs:List Value):Prop:=∀ i u,xs[i]? = some u→∃ ad,A=some ad∧ad.block < B∧w.cell? (ad.add i)=some u

section
variable {w w':World} {B:Nat} {A:Option Addr} {xs:List Value}
theorem Rd.nil (w:World) (B:Nat) (A:Option Addr):Rd w B A []:=fun i u h=>by simp at h
theorem Rd.at_ (h:Rd w B A xs) {i:Nat} {u:Value} (hu:xs[i]? = some u):∃ ad,A=some ad∧ad.block < B∧w.cell? (ad.add i)=some u:=h i u hu
theorem Rd.int {k:IntKind} {xs:List Int} (h:Rd w B A (xs.map (.int k))) {i:Nat} (hi:i < xs.length):∃ ad,A=some ad∧ad.block < B∧w.cell? (ad.add i)=some (.int k xs[i]):=h i _ (by simp [hi])
theorem Rd.ix {k:IntKind} {xs:List Int} (h:Rd w B A (xs.map (.int k))) {i:Nat} (hi:i < xs.length):∃ x ad,xs[i]? = some x∧A=some ad∧ad.block < B∧w.cell? (ad.add i)=some (.int k x):=by
 obtain ⟨ad,e,hb,hc⟩:=h.int hi;exact ⟨_,ad,List.getElem?_eq_getElem hi,e,hb,hc⟩
theorem Rd.bound (h:Rd w B A xs) {B':Nat} (hB:B≤B'):Rd w B' A xs:=fun i u hu=>by
 obtain ⟨ad,e,hb,hc⟩:=h i u hu;exact ⟨ad,e,by omega,hc⟩
theorem Rd.kp {S:List Nat} (h:Rd w B A xs) (k:Kp S w w') (hS:∀ g ∈ S,B≤g):Rd w' B A xs:=fun i u hu=>by
 obtain ⟨ad,e,hb,hc⟩:=h i u hu;exact ⟨ad,e,hb,k.cell hc (fun hm=>by rw [addr_add_block] at hm;have:=hS _ hm;omega)⟩
theorem Rd.kp0 (h:Rd w B A xs) (k:Kp [] w w'):Rd w' B A xs:=h.kp k (by simp)
theorem Rd.kp_ne {S:List Nat} (h:Rd w B A xs) (k:Kp S w w') (hS:∀ ad,A=some ad→ad.block ∉ S):Rd w' B A xs:=fun i u hu=>by
 obtain ⟨ad,e,hb,hc⟩:=h i u hu;exact ⟨ad,e,hb,k.cell hc (by rw [addr_add_block];exact hS ad e)⟩
theorem Rd.take (h:Rd w B A xs) (n:Nat):Rd w B A (xs.take n):=fun i u hu=>by
 rw [List.getElem?_take] at hu
 split at hu
 ·exact h i u hu
 ·cases hu
theorem Rd.drop {a:Addr} (h:Rd w B (some a) xs) (n:Nat):Rd w B (some (a.add n)) (xs.drop n):=fun i u hu=>by
 rw [List.getElem?_drop] at hu;obtain ⟨ad,e,hb,hc⟩:=h _ u hu;injection e with e
 subst e;exact ⟨_,rfl,by rw [addr_add_block];exact hb,by rw [addr_add_add];exact hc⟩
theorem Rd.none_nil {α:Type} {f:α→Value} {xs:List α} (h:Rd w B none (xs.map f)):xs=[]:=by
 rcases xs with _ | ⟨x,l⟩
 ·rfl
 ·obtain ⟨ad,h,_⟩:=h 0 (f x) rfl
  cases h
theorem Rd.lt (h:Rd w B A xs) (hx:xs ≠ []):∃ ad,A=some ad∧ad.block < B∧ad.block < w.heap.size:=by
 obtain ⟨x,l,rfl⟩:=List.exists_cons_of_ne_nil hx;obtain ⟨ad,e,hb,hc⟩:=h 0 x rfl;exact ⟨ad,e,hb,by have:=World.block_lt_of_cell? w _ hc;rwa [addr_add_block] at this⟩
end

theorem Rd.new (w:World) (C:Array Value) (e:TypeId) (fr:Nat × Nat):Rd (w.alloc (.cells C e fr)) (w.heap.size+1) (some ⟨w.heap.size,0,none⟩) C.toList:=fun i u hu =>
 ⟨_,rfl,Nat.lt_succ_self _,by rw [addr_lit_add,cell_of_row (w.alloc (.cells C e fr)) w.heap.size (0+i) C e fr (heap_alloc_new w _)];simpa using hu⟩
def RdRows (w:World) (B:Nat) (k:IntKind) (A:Option Addr) (xss:List (List Int)):Prop:=
 ∃ l:List Value,l.length=xss.length∧Rd w B A l∧∀ (i:Nat) (xs:List Int),xss[i]? = some xs→∃ (Ai:Option Addr) (ci:Nat),l[i]? = some (Value.slice Ai xs.length ci)∧xs.length≤ci∧Rd w B Ai (xs.map (.int k))
theorem RdRows.kp {w w':World} {B:Nat} {k:IntKind} {A:Option Addr} {xss:List (List Int)} {S:List Nat} (h:RdRows w B k A xss) (hk:Kp S w w') (hS:∀ g ∈ S,B≤g):RdRows w' B k A xss:=by
 obtain ⟨l,hl,hr,h⟩:=h;refine ⟨l,hl,hr.kp hk hS,fun i xs hi=>?_⟩;obtain ⟨Ai,ci,h1,h2,h3⟩:=h i xs hi;exact ⟨Ai,ci,h1,h2,h3.kp hk hS⟩
theorem RdRows.kp0 {w w':World} {B:Nat} {k:IntKind} {A:Option Addr} {xss:List (List Int)} (h:RdRows w B k A xss) (hk:Kp [] w w'):RdRows w' B k A xss:=h.kp hk (by simp)
theorem RdRows.bound {w:World} {B B':Nat} {k:IntKind} {A:Option Addr} {xss:List (List Int)} (h:RdRows w B k A xss) (hB:B≤B'):RdRows w B' k A xss:=by
 obtain ⟨l,hl,hr,h⟩:=h;refine ⟨l,hl,hr.bound hB,fun i xs hi=>?_⟩;obtain ⟨Ai,ci,h1,h2,h3⟩:=h i xs hi;exact ⟨Ai,ci,h1,h2,h3.bound hB⟩
theorem RdRows.ix {w:World} {B:Nat} {k:IntKind} {A:Option Addr} {xss:List (List Int)} (h:RdRows w B k A xss) {i:Nat} (hi:i < xss.length) :
  ∃ xs ad Ai ci,xss[i]? = some xs∧A=some ad∧ad.block < B∧w.cell? (ad.add i)=some (.slice Ai xs.length ci)∧xs.length≤ci∧Rd w B Ai (xs.map (.int k)):=by
 obtain ⟨l,hl,hr,h⟩:=h;obtain ⟨Ai,ci,h1,h2,h3⟩:=h i _ (List.getElem?_eq_getElem hi);obtain ⟨ad,e,hb,hc⟩:=hr i _ h1;exact ⟨_,ad,Ai,ci,List.getElem?_eq_getElem hi,e,hb,hc,h2,h3⟩
theorem RdRows.nil (w:World) (B:Nat) (k:IntKind) (A:Option Addr):RdRows w B k A []:=⟨[],rfl,Rd.nil _ _ _,fun i xs h=>by simp at h⟩

def RowsL (w:World) (B:Nat) (k:IntKind):List Value→List (List Int)→Prop
 | [],[]=>True
 | v :: l,xs :: xss=>(∃ A c,v=.slice A xs.length c∧xs.length≤c∧Rd w B A (xs.map (.int k)))∧RowsL w B k l xss
 | _,_=>False
theorem RowsL.len {w:World} {B:Nat} {k:IntKind}:∀ {l:List Value} {xss:List (List Int)},RowsL w B k l xss→l.length=xss.length
 | [],[],_=>rfl
 | _ :: _,_ :: _,h=>by simp [RowsL.len h.2]
 | [],_ :: _,h=>h.elim
 | _ :: _,[],h=>h.elim
theorem RowsL.get {w:World} {B:Nat} {k:IntKind}:∀ {l:List Value} {xss:List (List Int)},RowsL w B k l xss→∀ (i:Nat) (xs:List Int),xss[i]? = some xs→∃ A c,l[i]? = some (Value.slice A xs.length c)∧xs.length≤c∧Rd w B A (xs.map (.int k))
 | [],[],_,i,xs,hi=>by simp at hi
 | v :: l,ys :: xss,h,0,xs,hi=>by
   simp at hi
   subst hi;obtain ⟨A,c,rfl,hc,hr⟩:=h.1;exact ⟨A,c,rfl,hc,hr⟩
 | v :: l,ys :: xss,h,i+1,xs,hi=>by
   obtain ⟨A,c,h1,h2,h3⟩:=RowsL.get h.2 i xs (by simpa using hi);exact ⟨A,c,by simpa using h1,h2,h3⟩
 | [],_ :: _,h,_,_,_=>h.elim
 | _ :: _,[],h,_,_,_=>h.elim
theorem RdRows.of_list {w:World} {B:Nat} {k:IntKind} {A:Option Addr} {l:List Value} {xss:List (List Int)} (h:RowsL w B k l xss) (hr:Rd w B A l):RdRows w B k A xss:=
 ⟨l,h.len,hr,h.get⟩
theorem RdRows.one {w:World} {g B:Nat} {k:IntKind} {Ai:Option Addr} {ci:Nat} {xs:List Int} {t:TypeId} (hg:w.heap[g]? = some (.cells #[.slice Ai xs.length ci] t (0,0))) (hB:g < B) (hc:xs.length≤ci) (hr:Rd w B Ai (xs.map (.int k))) :
  RdRows w B k (some ⟨g,0,none⟩) [xs]:=by
 refine ⟨[.slice Ai xs.length ci],rfl,fun i u hu=>⟨_,rfl,hB,?_⟩,fun i ys hi=>?_⟩
 ·match i,hu with
  | 0,hu=>rw [addr_lit_add,cell_of_row w g _ _ t (0,0) hg];simpa using hu
 ·match i,hi with
  | 0,hi =>
    simp at hi
    subst hi;exact ⟨Ai,ci,rfl,hc,hr⟩
def Blk (w:World) (g:Nat) (t:TypeId) (l:List Value):Prop:=w.heap[g]? = some (.cells l.toArray t (0,0))

section
variable {w w':World} {g:Nat} {t:TypeId} {l:List Value}
theorem Blk.lt (h:Blk w g t l):g < w.heap.size:=lt_of_block h
theorem Blk.cell (h:Blk w g t l) (i:Nat):w.cell? ⟨g,i,none⟩=l[i]? := by
 rw [cell_of_row w g i _ t (0,0) h];simp
theorem Blk.ix (h:Blk w g t l) {i:Nat} (hi:i < l.length):∃ u,l[i]? = some u∧w.cell? ⟨g,i,none⟩=some u:=⟨l[i],List.getElem?_eq_getElem hi,by rw [h.cell,List.getElem?_eq_getElem hi]⟩
theorem Blk.free (h:Blk w g t l) (i:Nat):w.frozen? ⟨g,i,none⟩=false:=by
 unfold Blk at h
 simp [World.frozen?,h]
theorem Blk.new (w:World) (t:TypeId) (l:List Value):Blk (w.alloc (.cells l.toArray t)) w.heap.size t l:=heap_alloc_new w _
theorem Blk.drew (h:Blk w g t l):Blk w.drew g t l:=h
theorem Blk.drewN (h:Blk w g t l) (n:Nat):Blk (w.drewN n) g t l:=h
theorem Blk.alloc (h:Blk w g t l) (o:Obj):Blk (w.alloc o) g t l:=(Below.heap_alloc w o g h.lt).trans h
theorem Blk.set_ (h:Blk w g t l) (i:Nat) (u:Value):Blk (w.setCell ⟨g,i,none⟩ u) g t (l.set i u):=by
 unfold Blk at h ⊢
 simp [World.setCell,Array.getElem?_modify,h]
theorem Blk.far (h:Blk w g t l) {p:Addr} (hp:g ≠ p.block) (u:Value):Blk (w.setCell p u) g t l:=(Below.heap_setCell w p u g hp).trans h
theorem Blk.kp {S:List Nat} (h:Blk w g t l) (k:Kp S w w') (hg:g ∉ S):Blk w' g t l:=(k.block g h.lt hg).trans h
theorem Blk.kp0 (h:Blk w g t l) (k:Kp [] w w'):Blk w' g t l:=h.kp k (by simp)
theorem Blk.inj {t':TypeId} {l':List Value} (h:Blk w g t l) (h':Blk w g t' l'):t=t'∧l=l':=by
 unfold Blk at h h';rw [h] at h';injection h' with h'
 injection h' with h1 h2
 exact ⟨h2,by simpa using h1⟩
theorem Blk.ne {g':Nat} {t':TypeId} {l':List Value} (h:Blk w g t l) (h':Blk w g' t' l') (hne:t ≠ t'):g ≠ g':=by
 rintro rfl;exact hne (h.inj h').1
theorem Blk.rd (h:Blk w g t l) {B:Nat} (hB:g < B):Rd w B (some ⟨g,0,none⟩) l:=fun i u hu=>⟨_,rfl,hB,by rw [addr_lit_add,h.cell];simpa using hu⟩
end

theorem take_succ_of {α:Type} {l:List α} {k:Nat} {x:α} (h:l[k]? = some x):l.take (k+1)=l.take k ++ [x]:=by
 rw [List.take_add_one,h];rfl

theorem own_blk {w:World} {base:Nat} {e:TypeId} {size n:Nat} {v:Value} {xs:List Value} (h:w.ownsRow base e size v n xs) :
  (v=.slice none 0 0∧n=0∧xs=[]) ∨ ∃ g cap rest,v=.slice (some ⟨g,0,none⟩) n cap∧base≤g∧Blk w g e (xs ++ rest)∧n≤cap∧cap≤maxLen∧xs.length=n * size∧(xs ++ rest).length=cap * size:=by
 obtain ⟨hl,h⟩:=h;rcases h with ⟨rfl,rfl⟩ | ⟨g,cap,cur,rfl,hb,hg,hn,hm,hs,ht⟩
 ·exact .inl ⟨rfl,rfl,List.eq_nil_of_length_eq_zero (by simpa using hl)⟩
 ·refine .inr ⟨g,cap,cur.toList.drop (n * size),rfl,hb,?_,hn,hm,hl,?_⟩
  ·rw [← ht,List.take_append_drop];exact hg
  ·rw [← ht,List.take_append_drop];simpa using hs
theorem own_rd {w:World} {base:Nat} {e:TypeId} {size n c m:Nat} {A:Option Addr} {xs:List Value} (h:w.ownsRow base e size (.slice A m c) n xs):Rd w w.heap.size A xs:=by
 rcases own_blk h with ⟨_,_,rfl⟩ | ⟨g,cap,rest,hv,_,hb,_⟩
 ·exact Rd.nil _ _ _
 ·injection hv with hv
  subst hv;intro i u hu
  exact ⟨_,rfl,hb.lt,by
   rw [addr_lit_add,hb.cell,Nat.zero_add,List.getElem?_append_left (by exact (List.getElem?_eq_some_iff.1 hu).1)]
   exact hu⟩
theorem own_kp {w w':World} {base:Nat} {e:TypeId} {size n:Nat} {v:Value} {xs:List Value} {S:List Nat} (h:w.ownsRow base e size v n xs) (k:Kp S w w') (hS:∀ g,v.ownBlock=some g→g ∉ S):w'.ownsRow base e size v n xs:=by
 refine ⟨h.1,?_⟩;rcases h.2 with hn | ⟨g,cap,cur,rfl,hb,hgg,rest⟩
 ·exact .inl hn
 ·exact .inr ⟨g,cap,cur,rfl,hb,(k.block g (lt_of_block hgg) (hS g rfl)).trans hgg,rest⟩
theorem own_kp0 {w w':World} {base:Nat} {e:TypeId} {size n:Nat} {v:Value} {xs:List Value} (h:w.ownsRow base e size v n xs) (k:Kp [] w w'):w'.ownsRow base e size v n xs:=own_kp h k (by simp)
theorem own_base {w:World} {base base':Nat} {e:TypeId} {size n:Nat} {v:Value} {xs:List Value} (h:w.ownsRow base e size v n xs) (hb:base'≤base):w.ownsRow base' e size v n xs:=by
 refine ⟨h.1,?_⟩;rcases h.2 with hn | ⟨g,cap,cur,rfl,hg,rest⟩
 ·exact .inl hn
 ·exact .inr ⟨g,cap,cur,rfl,by omega,rest⟩
theorem own_ge {w:World} {base:Nat} {e:TypeId} {size n:Nat} {v:Value} {xs:List Value} (h:w.ownsRow base e size v n xs) {g:Nat} (hg:v.ownBlock=some g):base≤g∧g < w.heap.size:=h.lt g hg
theorem own_of_blk {w:World} {g:Nat} {e:TypeId} {xs rest:List Value} {base size n cap:Nat} (h:Blk w g e (xs ++ rest)) (hb:base≤g) (hn:n≤cap) (hm:cap≤maxLen) (hx:xs.length=n * size) (hc:(xs ++ rest).length=cap * size) :
  w.ownsRow base e size (.slice (some ⟨g,0,none⟩) n cap) n xs:=
 ⟨hx,.inr ⟨g,cap,_,rfl,hb,h,hn,hm,by simpa using hc,by rw [List.take_append_of_le_length (by omega),List.take_of_length_le (by omega)]⟩⟩

theorem own_form {w:World} {base:Nat} {e:TypeId} {size n:Nat} {v:Value} {xs:List Value} (h:w.ownsRow base e size v n xs) :
  ∃ A c,v=.slice A n c∧n≤c∧c≤maxLen∧(A=none→n=0∧c=0)∧(∀ ad,A=some ad→ad.off=0∧ad.spot=none∧base≤ad.block∧ad.block < w.heap.size):=by
 rcases own_blk h with ⟨rfl,rfl,rfl⟩ | ⟨g,cap,rest,rfl,hg,hb,hn,hc,_⟩
 ·exact ⟨none,0,rfl,Nat.le_refl _,Nat.zero_le _,fun _=>⟨rfl,rfl⟩,(fun ad h=>by cases h)⟩
 ·exact ⟨_,cap,rfl,hn,hc,(fun h=>by cases h),(fun ad h=>by injection h with h;subst h;exact ⟨rfl,rfl,hg,hb.lt⟩)⟩

theorem own_full {w:World} {base:Nat} {e:TypeId} {g cap:Nat} {xs:List Value} (h:w.ownsRow base e 1 (.slice (some ⟨g,0,none⟩) cap cap) cap xs):Blk w g e xs:=by
 rcases own_blk h with ⟨h,_⟩ | ⟨g',cap',rest,hv,_,hb',_,_,hl,hc⟩
 ·cases h
 ·injection hv with hv _ hcap
  injection hv with hv
  injection hv with hv
  subst hv hcap;have hr:rest=[]:=List.eq_nil_of_length_eq_zero (by rw [List.length_append,hl] at hc;omega);subst hr;simpa using hb'

theorem run_append_rd {P:Program} (w:World) (base:Nat) (t ty e:TypeId) (i:TypeInfo) (z:Value) (size bytes:Nat) (ht:P.underlying t=some (.slice e)) (hi:P.info? e=some i) (hz:i.zero=some z)
  (hsize:i.size=size) (hby:i.bytes=bytes) (hzs:z.cells.size=size) (hsz:0 < size)
  (v:Value) (n:Nat) (xs:List Value) (hown:w.ownsRow base e size v n xs)
  (B:Nat) (A:Option Addr) (m c:Nat) (news:List Value) (hl:news.length=m * size) (hr:Rd w B A news) (h1:∀ u ∈ news,u.oneCell'=true)
  (h63:n+m≤maxLen) (hbytes:(n+m) * bytes≤140737488355328) (hbase:base≤w.heap.size) :
  ∃ v' w',(Builtin.append_ #[t,t] ty #[v,.slice A m c]).run P w=.ok v' w'∧w'.ownsRow base e size v' (n+m) (xs ++ news)∧w.grownBy w' v.ownBlock ∧
   (v'.ownBlock=v.ownBlock ∨ v'.ownBlock=some w.heap.size):=by
 rcases A with _ | ad
 ·have hn:news=[]:=by
   rcases news with _ | ⟨x,l⟩
   ·rfl
   ·obtain ⟨ad,h,_⟩:=hr 0 x rfl
    cases h
  subst hn
  have hm:m=0:=by
   rcases Nat.eq_zero_or_pos m with h0 | h0
   ·exact h0
   ·have:=Nat.mul_pos h0 hsz
    simp at hl
    omega
  subst hm;refine ⟨v,w,?_,by simpa using hown,World.grownBy.refl w _,.inl rfl⟩;rcases hown.2 with ⟨rfl,rfl⟩ | ⟨g,cap,cur,rfl,_,_,hnc,_⟩
  ·simp [Builtin.append_,run_underlying ht,sizeOf,typeInfo,hi,Builtin.lenOf,Builtin.firstCells]
  ·simp [Builtin.append_,run_underlying ht,sizeOf,typeInfo,hi,Builtin.lenOf,Builtin.firstCells,hnc,storeCells]
 ·have hnews:∀ j u,news[j]? = some u→w.cell? (ad.add j)=some u:=fun j u hu=>by
   obtain ⟨ad',e',_,hc⟩:=hr j u hu;injection e' with e'
   subst e';exact hc
  obtain ⟨v',w',hrun,ho,hg,_,ha⟩:=run_append_own_at (P:=P) w base t ty e i z size bytes ht hi hz hsize hby hzs hsz v n xs hown ad m c news hl hnews h1 h63 hbytes hbase;exact ⟨v',w',hrun,ho,hg,ha⟩

section
variable {P:Program} {w:World}
theorem wp_append_rd {o:Oper} {a:Act} {K:Act→World→Prop} {Q:Exit→Act→World→Prop} (s x:Operand) (t:TypeId)
  (ho:o.op=.call { callee:=.builtin .append,args:=#[s,x],argTypes:=#[t,t] })
  (base:Nat) (e:TypeId) (i:TypeInfo) (z:Value) (size bytes:Nat) (ht:P.underlying t=some (.slice e)) (hi:P.info? e=some i) (hz:i.zero=some z)
  (hsize:i.size=size) (hby:i.bytes=bytes) (hzs:z.cells.size=size) (hsz:0 < size)
  (v:Value) (n:Nat) (xs:List Value) (hs:a.eval s=v) (hown:w.ownsRow base e size v n xs)
  (B:Nat) (A:Option Addr) (m c:Nat) (news:List Value) (hx:a.eval x=.slice A m c) (hl:news.length=m * size) (hr:Rd w B A news) (h1:∀ u ∈ news,u.oneCell'=true)
  (h63:n+m≤maxLen) (hbytes:(n+m) * bytes≤140737488355328) (hbase:base≤w.heap.size)
  (h:∀ v' w',w'.ownsRow base e size v' (n+m) (xs ++ news)→w.grownBy w' v.ownBlock→(v'.ownBlock=v.ownBlock ∨ v'.ownBlock=some w.heap.size)→K (a.put o.dst v') w') :
  o.wp P a w K Q:=by
 obtain ⟨v',w',hrun,h2,h3,h4⟩:=run_append_rd (P:=P) w base t o.type e i z size bytes ht hi hz hsize hby hzs hsz v n xs hown B A m c news hl hr h1 h63 hbytes hbase;unfold Oper.wp execOp;simp only [ho,resolve,invoke,builtin,Sem.run_bind,Sem.run_pure,Result.andThen_ok,List.map_toArray,List.map_cons,List.map_nil,hs,hx,hrun]
 exact h v' w' h2 h3 h4
theorem wpList_append_rd {ops:Array Oper} {rest:List Oper} {o:Oper} {a:Act} {Q:Exit→Act→World→Prop} (hgd:o.guard=none) (s x:Operand) (t:TypeId)
  (ho:o.op=.call { callee:=.builtin .append,args:=#[s,x],argTypes:=#[t,t] })
  (base:Nat) (e:TypeId) (i:TypeInfo) (z:Value) (size bytes:Nat) (ht:P.underlying t=some (.slice e)) (hi:P.info? e=some i) (hz:i.zero=some z)
  (hsize:i.size=size) (hby:i.bytes=bytes) (hzs:z.cells.size=size) (hsz:0 < size)
  (v:Value) (n:Nat) (xs:List Value) (hs:a.eval s=v) (hown:w.ownsRow base e size v n xs)
  (B:Nat) (A:Option Addr) (m c:Nat) (news:List Value) (hx:a.eval x=.slice A m c) (hl:news.length=m * size) (hr:Rd w B A news) (h1:∀ u ∈ news,u.oneCell'=true)
  (h63:n+m≤maxLen) (hbytes:(n+m) * bytes≤140737488355328) (hbase:base≤w.heap.size)
  (h:∀ v' w',w'.ownsRow base e size v' (n+m) (xs ++ news)→w.grownBy w' v.ownBlock→(v'.ownBlock=v.ownBlock ∨ v'.ownBlock=some w.heap.size)→wpList P ops Q rest (a.put o.dst v') w') :
  wpList P ops Q (o :: rest) a w:=
 wpList_plain hgd fun _ hK=>wp_append_rd s x t ho base e i z size bytes ht hi hz hsize hby hzs hsz v n xs hs hown B A m c news hx hl hr h1 h63 hbytes hbase fun v' w' h2 h3 h4=>hK _ _ (h v' w' h2 h3 h4)
theorem wpList_append_fits_rd {ops:Array Oper} {rest:List Oper} {o:Oper} {a:Act} {Q:Exit→Act→World→Prop}
  (hg:o.guard=none) (s x:Operand) (t:TypeId) (hop:o.op=Op.call { callee:=Callee.builtin Builtin.append,args:=#[s,x],argTypes:=#[t,t] })
  (base:Nat) (e:TypeId) (i:TypeInfo) (size:Nat) (h1:P.underlying t=some (.slice e)) (h2:P.info? e=some i) (h4:i.size=size) (hsz:0 < size)
  (g k cap:Nat) (xs:List Value) (hs:a.eval s=.slice (some ⟨g,0,none⟩) k cap) (hown:w.ownsRow base e size (.slice (some ⟨g,0,none⟩) k cap) k xs) (B:Nat) (A:Option Addr) (m c:Nat) (news:List Value) (hx:a.eval x=.slice A m c) (hn:news.length=m * size)
  (hr:Rd w B A news) (h1c:∀ u ∈ news,u.oneCell'=true) (b1:k+m≤cap)
  (hK:∀ w',w'.ownsRow base e size (.slice (some ⟨g,0,none⟩) (k+m) cap) (k+m) (xs ++ news)→w.grownBy w' (some g)→wpList P ops Q rest (a.put o.dst (.slice (some ⟨g,0,none⟩) (k+m) cap)) w') :
  wpList P ops Q (o :: rest) a w:=by
 cases A with
 | some ad =>
   refine wpList_append_fits w hg s x t hop base e i size h1 h2 h4 g k cap xs hs hown ad m c news hx hn (fun j u hu=>?_) h1c b1 hK;obtain ⟨ad',e',_,hc⟩:=hr j u hu;injection e' with e'
   subst e';exact hc
 | none =>
   have hnn:news=[]:=by
    rcases news with _ | ⟨x,l⟩
    ·rfl
    ·obtain ⟨ad,h,_⟩:=hr 0 x rfl
     cases h
   subst hnn
   have hm:m=0:=by
    rcases Nat.eq_zero_or_pos m with h0 | h0
    ·exact h0
    ·have:=Nat.mul_pos h0 hsz
     simp at hn
     omega
   subst hm;refine wpList_plain hg fun K hK'=>?_
   have hrun:(Builtin.append_ #[t,t] o.type #[.slice (some ⟨g,0,none⟩) k cap,.slice none 0 c]).run P w=.ok (.slice (some ⟨g,0,none⟩) k cap) w:=by
    obtain ⟨_,_,hh⟩:=own_blk hown |>.resolve_left (by rintro ⟨h,_⟩;cases h);obtain ⟨_,hv,_,_,hnc,_⟩:=hh;injection hv with _ _ hv
    subst hv
    simp [Builtin.append_,run_underlying h1,sizeOf,typeInfo,h2,Builtin.lenOf,Builtin.firstCells,hnc,storeCells]
   unfold Oper.wp
   simp [execOp,hop,resolve,invoke,builtin,hs,hx,hrun,Result.andThen]
   exact hK' _ _ (by simpa using hK w (by simpa using hown) (World.grownBy.refl w _))
theorem step_append_rd {ops:Array Oper} {o:Oper} {a:Act} {K:Act→World→Prop} {Q:Exit→Act→World→Prop} {E:Prop} (hgd:o.guard=none) (s x:Operand) (t:TypeId)
  (ho:o.op=.call { callee:=.builtin .append,args:=#[s,x],argTypes:=#[t,t] })
  (base:Nat) (e:TypeId) (i:TypeInfo) (z:Value) (size bytes:Nat) (ht:P.underlying t=some (.slice e)) (hi:P.info? e=some i) (hz:i.zero=some z)
  (hsize:i.size=size) (hby:i.bytes=bytes) (hzs:z.cells.size=size) (hsz:0 < size)
  (v:Value) (n:Nat) (xs:List Value) (hs:a.eval s=v) (hown:w.ownsRow base e size v n xs)
  (B:Nat) (A:Option Addr) (m c:Nat) (news:List Value) (hx:a.eval x=.slice A m c) (hl:news.length=m * size) (hr:Rd w B A news) (h1:∀ u ∈ news,u.oneCell'=true)
  (h63:n+m≤maxLen) (hbytes:(n+m) * bytes≤140737488355328) (hbase:base≤w.heap.size)
  (h:∀ v' w',w'.ownsRow base e size v' (n+m) (xs ++ news)→w.grownBy w' v.ownBlock→(v'.ownBlock=v.ownBlock ∨ v'.ownBlock=some w.heap.size)→K (a.put o.dst v') w') :
  if Region.wanted o (yielded ops a.tmps)=true then Oper.wp P o a w K Q else E:=by
 have hw:Region.wanted o (yielded ops a.tmps)=true:=by simp [Region.wanted,hgd]
 rw [if_pos hw];exact wp_append_rd s x t ho base e i z size bytes ht hi hz hsize hby hzs hsz v n xs hs hown B A m c news hx hl hr h1 h63 hbytes hbase h
end
end Go.Proofs.YtanacapkfllbnaaGreatDoor
namespace Go.Proofs.YtanacapkfllbnaaGreatDoor

theorem and_bit (a c b d:Nat) (hb:b≤1) (hd:d≤1):(2 * a+b) &&& (2 * c+d)=2 * (a &&& c)+(b &&& d):=by
 have h1:((2 * a+b) &&& (2 * c+d)) / 2=a &&& c:=by
  rw [Nat.and_div_two,show (2 * a+b) / 2=a by omega,show (2 * c+d) / 2=c by omega]
 have h2:((2 * a+b) &&& (2 * c+d)) % 2=(b &&& d):=by
  have:=Nat.and_mod_two_pow (a:=2 * a+b) (b:=2 * c+d) (n:=1);rw [Nat.pow_one] at this;rw [this,show (2 * a+b) % 2=b by omega,show (2 * c+d) % 2=d by omega]
 have h3:=Nat.div_add_mod ((2 * a+b) &&& (2 * c+d)) 2;rw [h1,h2] at h3;exact h3.symm
theorem or_bit (a c b d:Nat) (hb:b≤1) (hd:d≤1):(2 * a+b) ||| (2 * c+d)=2 * (a ||| c)+(b ||| d):=by
 have h1:((2 * a+b) ||| (2 * c+d)) / 2=a ||| c:=by
  rw [Nat.or_div_two,show (2 * a+b) / 2=a by omega,show (2 * c+d) / 2=c by omega]
 have h2:((2 * a+b) ||| (2 * c+d)) % 2=(b ||| d):=by
  have:=Nat.or_mod_two_pow (a:=2 * a+b) (b:=2 * c+d) (n:=1);rw [Nat.pow_one] at this;rw [this,show (2 * a+b) % 2=b by omega,show (2 * c+d) % 2=d by omega]
 have h3:=Nat.div_add_mod ((2 * a+b) ||| (2 * c+d)) 2;rw [h1,h2] at h3;exact h3.symm

def bitN:List Bool→Nat
 | []=>0
 | b :: l=>b.toNat+2 * bitN l
theorem bitN_lt:∀ l:List Bool,bitN l < 2 ^ l.length
 | []=>by show 0 < 2 ^ 0;decide
 | b :: l=>by
   have h:=bitN_lt l;have hb:=Bool.toNat_le b
   show b.toNat+2 * bitN l < 2 ^ (l.length+1)
   rw [Nat.pow_succ];omega
theorem bitN_app:∀ (a b:List Bool),bitN (a ++ b)=bitN a+2 ^ a.length * bitN b
 | [],b=>by show bitN b=0+2 ^ 0 * bitN b;omega
 | x :: a,b=>by
   show x.toNat+2 * bitN (a ++ b)=x.toNat+2 * bitN a+2 ^ (a.length+1) * bitN b
   rw [bitN_app,Nat.pow_succ,Nat.mul_add,← Nat.mul_assoc,Nat.mul_comm (2 ^ a.length) 2,Nat.add_assoc]
theorem bitN_split (l:List Bool) (k:Nat) (hk:k≤l.length):bitN l=bitN (l.take k)+2 ^ k * bitN (l.drop k):=by
 have h:=bitN_app (l.take k) (l.drop k);rw [List.take_append_drop,List.length_take,Nat.min_eq_left hk] at h;exact h
theorem bitN_mod (l:List Bool) (k:Nat):bitN l % 2 ^ k=bitN (l.take k):=by
 rcases Nat.lt_or_ge l.length k with h | h
 ·rw [List.take_of_length_le (by omega),Nat.mod_eq_of_lt (Nat.lt_of_lt_of_le (bitN_lt l) (Nat.pow_le_pow_right (by omega) (by omega)))]
 ·rw [bitN_split l k h,Nat.add_mul_mod_self_left,Nat.mod_eq_of_lt];have:=bitN_lt (l.take k)
  rwa [List.length_take,Nat.min_eq_left h] at this
theorem bitN_div (l:List Bool) (k:Nat):bitN l / 2 ^ k=bitN (l.drop k):=by
 rcases Nat.lt_or_ge l.length k with h | h
 ·rw [List.drop_of_length_le (by omega),Nat.div_eq_of_lt (Nat.lt_of_lt_of_le (bitN_lt l) (Nat.pow_le_pow_right (by omega) (by omega)))];rfl
 ·have h1:=bitN_lt (l.take k);rw [List.length_take,Nat.min_eq_left h] at h1;rw [bitN_split l k h,Nat.add_mul_div_left _ _ (Nat.two_pow_pos _),Nat.div_eq_of_lt h1,Nat.zero_add]
theorem bitN_bit {l:List Bool} {i:Nat} {b:Bool} (h:l[i]? = some b):bitN l / 2 ^ i % 2=b.toNat:=by
 rw [bitN_div];obtain ⟨hi,rfl⟩:=List.getElem?_eq_some_iff.1 h;rw [List.drop_eq_getElem_cons hi]
 show ((l[i]).toNat+2 * bitN (l.drop (i+1))) % 2=_
 have:=Bool.toNat_le l[i];omega
theorem bitN_set:∀ {l:List Bool} {i:Nat} {b:Bool},l[i]? = some b→∀ c:Bool,bitN (l.set i c)+b.toNat * 2 ^ i=bitN l+c.toNat * 2 ^ i
 | [],i,b,h,c=>by simp at h
 | x :: l,0,b,h,c=>by
   simp at h
   subst h
   show c.toNat+2 * bitN l+x.toNat * 2 ^ 0=x.toNat+2 * bitN l+c.toNat * 2 ^ 0
   omega
 | x :: l,i+1,b,h,c=>by
   have ih:=bitN_set (l:=l) (i:=i) (b:=b) (by simpa using h) c
   show x.toNat+2 * bitN (l.set i c)+b.toNat * 2 ^ (i+1)=x.toNat+2 * bitN l+c.toNat * 2 ^ (i+1)
   rw [Nat.pow_succ,← Nat.mul_assoc,← Nat.mul_assoc];omega
theorem bitN_and:∀ {a b:List Bool},a.length=b.length→bitN a &&& bitN b=bitN (List.zipWith (· && ·) a b)
 | [],[],_=>rfl
 | x :: a,y :: b,h=>by
   show (x.toNat+2 * bitN a) &&& (y.toNat+2 * bitN b)=(x && y).toNat+2 * bitN (List.zipWith (· && ·) a b)
   rw [← bitN_and (a:=a) (b:=b) (by simpa using h),Nat.add_comm x.toNat,Nat.add_comm y.toNat,and_bit _ _ _ _ (Bool.toNat_le x) (Bool.toNat_le y),Nat.add_comm]
   congr 1
   cases x <;> cases y <;> rfl
 | [],_ :: _,h=>by simp at h
 | _ :: _,[],h=>by simp at h
theorem bitN_or:∀ {a b:List Bool},a.length=b.length→bitN a ||| bitN b=bitN (List.zipWith (· || ·) a b)
 | [],[],_=>rfl
 | x :: a,y :: b,h=>by
   show (x.toNat+2 * bitN a) ||| (y.toNat+2 * bitN b)=(x || y).toNat+2 * bitN (List.zipWith (· || ·) a b)
   rw [← bitN_or (a:=a) (b:=b) (by simpa using h),Nat.add_comm x.toNat,Nat.add_comm y.toNat,or_bit _ _ _ _ (Bool.toNat_le x) (Bool.toNat_le y),Nat.add_comm]
   congr 1
   cases x <;> cases y <;> rfl
 | [],_ :: _,h=>by simp at h
 | _ :: _,[],h=>by simp at h
theorem bitN_zeros (n:Nat):bitN (List.replicate n false)=0:=by
 induction n with
 | zero=>rfl
 | succ n ih=>rw [List.replicate_succ];show (false).toNat+2 * bitN _=0;rw [ih];rfl
theorem bitN_ones (n:Nat):bitN (List.replicate n true)=2 ^ n - 1:=by
 induction n with
 | zero=>rfl
 | succ n ih =>
   rw [List.replicate_succ]
   show (true).toNat+2 * bitN _=2 ^ (n+1) - 1
   rw [ih,Nat.pow_succ];have:=Nat.two_pow_pos n
   show 1+2 * (2 ^ n - 1)=_
   omega
theorem bitN_one {n r:Nat} (h:r < n):bitN ((List.replicate n false).set r true)=2 ^ r:=by
 have:=bitN_set (l:=List.replicate n false) (i:=r) (b:=false) (by simp [h]) true;rw [bitN_zeros] at this;simpa using this
theorem bitN_not_one {n r:Nat} (h:r < n):bitN ((List.replicate n true).set r false)=2 ^ n - 1 - 2 ^ r:=by
 have:=bitN_set (l:=List.replicate n true) (i:=r) (b:=true) (by simp [h]) false;rw [bitN_ones] at this;exact Nat.eq_sub_of_add_eq (by simpa using this)
theorem bitN_set_one {l:List Bool} {r:Nat} (h:r < l.length):bitN l ||| 2 ^ r=bitN (l.set r true):=by
 rw [← bitN_one h,bitN_or (by simp)]
 congr 1
 apply List.ext_getElem?
 intro i;rw [List.getElem?_zipWith,List.getElem?_set,List.getElem?_set];by_cases hi:r=i
 ·subst hi;rw [if_pos rfl,if_pos rfl,if_pos (by simpa using h),if_pos h,List.getElem?_eq_getElem h]
  simp
 ·rw [if_neg hi,if_neg hi];by_cases hl:i < l.length
  ·simp [hl]
  ·simp [hl]
theorem bitN_clear_one {l:List Bool} {r:Nat} (h:r < l.length):bitN l &&& (2 ^ l.length - 1 - 2 ^ r)=bitN (l.set r false):=by
 rw [← bitN_not_one h,bitN_and (by simp)]
 congr 1
 apply List.ext_getElem?
 intro i;rw [List.getElem?_zipWith,List.getElem?_set,List.getElem?_set];by_cases hi:r=i
 ·subst hi;rw [if_pos rfl,if_pos rfl,if_pos (by simpa using h),if_pos h,List.getElem?_eq_getElem h]
  simp
 ·rw [if_neg hi,if_neg hi];by_cases hl:i < l.length
  ·simp [hl]
  ·simp [hl]
def ft:List Bool→Nat
 | []=>0
 | true :: _=>0
 | false :: l=>ft l+1
def clrN:Nat→List Bool→List Bool
 | 0,l=>l
 | _+1,[]=>[]
 | k+1,true :: l=>false :: clrN k l
 | k+1,false :: l=>false :: clrN (k+1) l
theorem clrN_len:∀ (k:Nat) (l:List Bool),(clrN k l).length=l.length
 | 0,l=>by cases l <;> rfl
 | _+1,[]=>rfl
 | k+1,true :: l=>by show (clrN k l).length+1=_;rw [clrN_len];rfl
 | k+1,false :: l=>by show (clrN (k+1) l).length+1=_;rw [clrN_len];rfl
theorem clrN_count:∀ (k:Nat) (l:List Bool),(clrN k l).count true=l.count true - k
 | 0,l=>by cases l <;> rfl
 | _+1,[]=>by simp [clrN]
 | k+1,true :: l=>by
   show (false :: clrN k l).count true=_
   rw [List.count_cons,List.count_cons,clrN_count]
   simp
 | k+1,false :: l=>by
   show (false :: clrN (k+1) l).count true=_
   rw [List.count_cons,List.count_cons,clrN_count]
   simp
theorem clrN_succ:∀ (k:Nat) (l:List Bool),clrN 1 (clrN k l)=clrN (k+1) l
 | 0,l=>by cases l <;> rfl
 | k+1,[]=>rfl
 | k+1,true :: l=>by show false :: clrN 1 (clrN k l)=false :: clrN (k+1) l;rw [clrN_succ]
 | k+1,false :: l=>by show false :: clrN 1 (clrN (k+1) l)=false :: clrN (k+2) l;rw [clrN_succ]
theorem bitN_pos:∀ {l:List Bool},0 < l.count true→0 < bitN l
 | [],h=>by simp at h
 | true :: l,_=>by show 0 < (true).toNat+2 * bitN l;simp;omega
 | false :: l,h=>by
   have:=bitN_pos (l:=l) (by simpa [List.count_cons] using h)
   show 0 < (false).toNat+2 * bitN l
   omega
theorem bitN_clr:∀ {l:List Bool},0 < l.count true→bitN l &&& (bitN l - 1)=bitN (clrN 1 l)
 | [],h=>by simp at h
 | true :: l,_=>by
   show ((true).toNat+2 * bitN l) &&& ((true).toNat+2 * bitN l - 1)=(false).toNat+2 * bitN (clrN 0 l)
   have h:=and_bit (bitN l) (bitN l) 1 0 (by omega) (by omega);rw [Nat.and_self,Nat.and_zero] at h;have e0:clrN 0 l=l:=by cases l <;> rfl
   rw [e0]
   show (1+2 * bitN l) &&& (1+2 * bitN l - 1)=0+2 * bitN l
   rw [show 1+2 * bitN l - 1=2 * bitN l+0 by omega,Nat.add_comm 1,h,Nat.zero_add,Nat.add_zero]
 | false :: l,h=>by
   have hl:0 < l.count true:=by simpa [List.count_cons] using h
   have hp:=bitN_pos hl;have ih:=bitN_clr hl
   show ((false).toNat+2 * bitN l) &&& ((false).toNat+2 * bitN l - 1)=(false).toNat+2 * bitN (clrN 1 l)
   have h:=and_bit (bitN l) (bitN l - 1) 0 1 (by omega) (by omega);rw [Nat.zero_and,ih] at h
   show (0+2 * bitN l) &&& (0+2 * bitN l - 1)=0+2 * bitN (clrN 1 l)
   rw [show 0+2 * bitN l=2 * bitN l+0 by omega,show 2 * bitN l+0 - 1=2 * (bitN l - 1)+1 by omega,h];omega
theorem and_compl:∀ (l:List Bool),bitN l &&& (2 ^ l.length - 1 - bitN l)=0
 | []=>rfl
 | b :: l=>by
   have ih:=and_compl l;have hlt:=bitN_lt l;have hb:=Bool.toNat_le b
   show (b.toNat+2 * bitN l) &&& (2 ^ (l.length+1) - 1 - (b.toNat+2 * bitN l))=0
   have h:=and_bit (bitN l) (2 ^ l.length - 1 - bitN l) b.toNat (1 - b.toNat) hb (by omega);rw [ih] at h;rw [Nat.pow_succ,show 2 ^ l.length * 2 - 1 - (b.toNat+2 * bitN l)=2 * (2 ^ l.length - 1 - bitN l)+(1 - b.toNat) by omega,Nat.add_comm b.toNat,h]
   cases b <;> rfl
theorem and_neg:∀ {l:List Bool},0 < l.count true→bitN l &&& (2 ^ l.length - bitN l)=2 ^ ft l
 | [],h=>by simp at h
 | true :: l,_=>by
   have hc:=and_compl l;have hlt:=bitN_lt l;have h:=and_bit (bitN l) (2 ^ l.length - 1 - bitN l) 1 1 (by omega) (by omega);rw [hc] at h
   show (1+2 * bitN l) &&& (2 ^ (l.length+1) - (1+2 * bitN l))=2 ^ 0
   rw [Nat.pow_succ,show 2 ^ l.length * 2 - (1+2 * bitN l)=2 * (2 ^ l.length - 1 - bitN l)+1 by omega,Nat.add_comm 1,h];rfl
 | false :: l,hc=>by
   have hl:0 < l.count true:=by simpa [List.count_cons] using hc
   have ih:=and_neg hl;have hlt:=bitN_lt l;have h:=and_bit (bitN l) (2 ^ l.length - bitN l) 0 0 (by omega) (by omega);rw [ih] at h
   show (0+2 * bitN l) &&& (2 ^ (l.length+1) - (0+2 * bitN l))=2 ^ (ft l+1)
   rw [Nat.pow_succ,show 2 ^ l.length * 2 - (0+2 * bitN l)=2 * (2 ^ l.length - bitN l)+0 by omega,show 0+2 * bitN l=2 * bitN l+0 by omega,h,Nat.pow_succ]
   show 2 * 2 ^ ft l+0=_
   omega
theorem ft_lt:∀ {l:List Bool},0 < l.count true→ft l < l.length
 | [],h=>by simp at h
 | true :: l,_=>by show 0 < l.length+1;omega
 | false :: l,h=>by
   have:=ft_lt (l:=l) (by simpa [List.count_cons] using h)
   show ft l+1 < l.length+1
   omega
def IsSel (l:List Bool) (k i:Nat):Prop:=l[i]? = some true∧(l.take i).count true=k
theorem sel_clr:∀ {l:List Bool} {k:Nat},k < l.count true→IsSel l k (ft (clrN k l))
 | [],k,h=>by simp at h
 | true :: l,0,_=>⟨rfl,rfl⟩
 | true :: l,k+1,h=>by
   have ih:=sel_clr (l:=l) (k:=k) (by simp at h;omega)
   show (true :: l)[ft (clrN k l)+1]? = some true∧((true :: l).take (ft (clrN k l)+1)).count true=k+1
   refine ⟨by simpa using ih.1,?_⟩;rw [List.take_succ_cons,List.count_cons,ih.2]
   simp
 | false :: l,k,h=>by
   have hc:k < l.count true:=by simpa [List.count_cons] using h
   have ih:=sel_clr hc
   have e:ft (clrN k (false :: l))=ft (clrN k l)+1:=by
    cases k with
    | zero =>
      have:clrN 0 l=l:=by cases l <;> rfl
      rw [this];rfl
    | succ k=>rfl
   rw [e];refine ⟨by simpa using ih.1,?_⟩;rw [List.take_succ_cons,List.count_cons,ih.2]
   simp
theorem count_take_le (l:List Bool) {i j:Nat} (h:i≤j):(l.take i).count true≤(l.take j).count true:=by
 have:l.take i=(l.take j).take i:=by rw [List.take_take,Nat.min_eq_left h]
 rw [this];exact (List.take_sublist i _).count_le true
theorem IsSel.count {l:List Bool} {k i:Nat} (h:IsSel l k i):(l.take (i+1)).count true=k+1:=by
 rw [List.take_add_one,h.1,List.count_append,h.2];rfl
theorem IsSel.unique {l:List Bool} {k i j:Nat} (h:IsSel l k i) (h':IsSel l k j):i=j:=by
 rcases Nat.lt_trichotomy i j with hl | hl | hl
 ·have h1:=h.count;have h2:=count_take_le l (show i+1≤j by omega);have h3:=h'.2;omega
 ·exact hl
 ·have h1:=h'.count;have h2:=count_take_le l (show j+1≤i by omega);have h3:=h.2;omega
theorem IsSel.lt {l:List Bool} {k i:Nat} (h:IsSel l k i):k < l.count true:=by
 have h1:=h.count;have h2:=(List.take_sublist (i+1) l).count_le true;omega
theorem IsSel.drop {l:List Bool} {k i p:Nat} (h:IsSel (l.drop p) k i):IsSel l (k+(l.take p).count true) (p+i):=by
 refine ⟨by have:=h.1;rwa [List.getElem?_drop] at this,?_⟩;rw [List.take_add,List.count_append,h.2,Nat.add_comm]
theorem IsSel.take {l:List Bool} {k i p:Nat} (h:IsSel (l.take p) k i):IsSel l k i:=by
 have hi:i < p:=by
  have h1:=(List.getElem?_eq_some_iff.1 h.1).1;rw [List.length_take] at h1;omega
 refine ⟨?_,?_⟩
 ·have h1:=h.1
  rwa [List.getElem?_take,if_pos hi] at h1
 ·have h2:=h.2
  rwa [List.take_take,Nat.min_eq_left (by omega)] at h2
def popN:Nat→Nat→Nat
 | 0,_=>0
 | k+1,x=>x % 2+popN k (x / 2)
theorem popN_bitN:∀ (k:Nat) (l:List Bool),l.length≤k→popN k (bitN l)=l.count true
 | 0,[],_=>rfl
 | 0,_ :: _,h=>by simp at h
 | k+1,[],_=>by
   have:=popN_bitN k [] (Nat.zero_le _)
   show 0 % 2+popN k (0 / 2)=0
   simpa [bitN] using this
 | k+1,b :: l,h=>by
   have ih:=popN_bitN k l (by simpa using h);have hb:=Bool.toNat_le b
   show (b.toNat+2 * bitN l) % 2+popN k ((b.toNat+2 * bitN l) / 2)=_
   rw [show (b.toNat+2 * bitN l) % 2=b.toNat by omega,show (b.toNat+2 * bitN l) / 2=bitN l by omega,ih,List.count_cons]
   cases b <;> simp <;> omega
theorem popN_split:∀ (j k b y:Nat),b < 2 ^ j→popN (j+k) (b+2 ^ j * y)=popN j b+popN k y
 | 0,k,b,y,h=>by
   have:b=0:=by rw [Nat.pow_zero] at h;omega
   subst this
   show popN (0+k) (0+2 ^ 0 * y)=0+popN k y
   rw [Nat.pow_zero,Nat.zero_add,Nat.zero_add,Nat.one_mul,Nat.zero_add]
 | j+1,k,b,y,h=>by
   have ih:=popN_split j k (b / 2) y (by rw [Nat.pow_succ] at h;omega);rw [show j+1+k=(j+k)+1 by omega]
   show (b+2 ^ (j+1) * y) % 2+popN (j+k) ((b+2 ^ (j+1) * y) / 2)=b % 2+popN j (b / 2)+popN k y
   have e:2 ^ (j+1) * y=2 * (2 ^ j * y):=by rw [Nat.pow_succ,Nat.mul_comm (2 ^ j) 2,Nat.mul_assoc]
   rw [e,show (b+2 * (2 ^ j * y)) % 2=b % 2 by omega,show (b+2 * (2 ^ j * y)) / 2=b / 2+2 ^ j * y by omega,ih];omega
theorem and_byte (a m x M:Nat) (ha:a < 256) (hm:m < 256):(a+256 * x) &&& (m+256 * M)=(a &&& m)+256 * (x &&& M):=by
 have h1:((a+256 * x) &&& (m+256 * M)) / 256=x &&& M:=by
  have:=Nat.and_div_two_pow (a:=a+256 * x) (b:=m+256 * M) (n:=8);rw [show (2:Nat) ^ 8=256 from rfl] at this;rw [this,show (a+256 * x) / 256=x by omega,show (m+256 * M) / 256=M by omega]
 have h2:((a+256 * x) &&& (m+256 * M)) % 256=(a &&& m):=by
  have:=Nat.and_mod_two_pow (a:=a+256 * x) (b:=m+256 * M) (n:=8);rw [show (2:Nat) ^ 8=256 from rfl] at this;rw [this,show (a+256 * x) % 256=a by omega,show (m+256 * M) % 256=m by omega]
 have h3:=Nat.div_add_mod ((a+256 * x) &&& (m+256 * M)) 256;rw [h1,h2] at h3;omega
def g1 (b:Nat):Nat:=(b / 2 &&& 85)+(b &&& 85)
def g2 (b:Nat):Nat:=(b / 4 &&& 51)+(b &&& 51)
def g3 (b:Nat):Nat:=(b / 16+b) &&& 15
theorem byte1:∀ b:Nat,b < 256→∀ p:Nat,p < 2→(b / 2+128 * p) &&& 85=b / 2 &&& 85:=by decide +kernel
theorem byte2:∀ b:Nat,b < 256→∀ p:Nat,p < 4→(b / 4+64 * p) &&& 51=b / 4 &&& 51:=by decide +kernel
theorem byte_pop:∀ b:Nat,b < 256→g1 b < 256∧g2 (g1 b) < 256∧g2 (g1 b) % 16≤4∧g2 (g1 b) / 16≤4∧g3 (g2 (g1 b))=popN 8 b∧popN 8 b≤8:=by decide +kernel
theorem byte3:∀ c:Nat,c < 256→c % 16≤4→c / 16≤4→∀ p:Nat,p≤4→c / 16+c+16 * p < 256∧(c / 16+c+16 * p) &&& 15=g3 c:=by
 have:∀ c:Nat,c < 80→c % 16≤4→c / 16≤4→∀ p:Nat,p < 5→c / 16+c+16 * p < 256∧(c / 16+c+16 * p) &&& 15=g3 c:=by decide +kernel
 intro c hc h1 h2 p hp;exact this c (by omega) h1 h2 p (by omega)
theorem st1 (b y M:Nat) (hb:b < 256):((b+256 * y) / 2 &&& (85+256 * M))+((b+256 * y) &&& (85+256 * M))=g1 b+256 * ((y / 2 &&& M)+(y &&& M)):=by
 rw [show (b+256 * y) / 2=(b / 2+128 * (y % 2))+256 * (y / 2) by omega,and_byte _ _ _ _ (by omega) (by omega),and_byte _ _ _ _ hb (by omega),byte1 b hb _ (by omega)];unfold g1;omega
theorem st2 (b y M:Nat) (hb:b < 256):((b+256 * y) / 4 &&& (51+256 * M))+((b+256 * y) &&& (51+256 * M))=g2 b+256 * ((y / 4 &&& M)+(y &&& M)):=by
 rw [show (b+256 * y) / 4=(b / 4+64 * (y % 4))+256 * (y / 4) by omega,and_byte _ _ _ _ (by omega) (by omega),and_byte _ _ _ _ hb (by omega),byte2 b hb _ (by omega)];unfold g2;omega
theorem st3 (c y M:Nat) (hc:c < 256) (h1:c % 16≤4) (h2:c / 16≤4) (hy:y % 16≤4):(((c+256 * y) / 16+(c+256 * y)) &&& (15+256 * M))=g3 c+256 * ((y / 16+y) &&& M):=by
 have h3:=byte3 c hc h1 h2 (y % 16) hy;rw [show (c+256 * y) / 16+(c+256 * y)=(c / 16+c+16 * (y % 16))+256 * (y / 16+y) by omega,and_byte _ _ _ _ h3.1 (by omega),h3.2]
theorem sum8 {u0 u1 u2 u3 u4 u5 u6 u7 c d e f:Nat} (q0:u0≤8) (q1:u1≤8) (q2:u2≤8) (q3:u3≤8) (q4:u4≤8) (q5:u5≤8) (q6:u6≤8) (q7:u7≤8)
  (ec:c=u0+256 * (u1+256 * (u2+256 * (u3+256 * (u4+256 * (u5+256 * (u6+256 * u7))))))) (hd:d=c+c / 256) (he:e=d+d / 65536) (hf:f=e+e / 4294967296) :
  f % 128=u0+(u1+(u2+(u3+(u4+(u5+(u6+u7))))))∧f < 2 ^ 62∧e < 2 ^ 64∧d < 2 ^ 64:=by
 have h1:c / 256=(u1)+256 * ((u2)+256 * ((u3)+256 * ((u4)+256 * ((u5)+256 * ((u6)+256 * (u7)))))):=by clear hd he hf;omega
 have hd':d=(u0+u1)+256 * ((u1+u2)+256 * ((u2+u3)+256 * ((u3+u4)+256 * ((u4+u5)+256 * ((u5+u6)+256 * ((u6+u7)+256 * (u7))))))):=by rw [hd,h1,ec];clear hd he hf h1 ec;omega
 clear hd h1;have h2:d / 65536=(u2+u3)+256 * ((u3+u4)+256 * ((u4+u5)+256 * ((u5+u6)+256 * ((u6+u7)+256 * (u7))))):=by clear he hf ec;omega
 have he':e=(u0+u1+u2+u3)+256 * ((u1+u2+u3+u4)+256 * ((u2+u3+u4+u5)+256 * ((u3+u4+u5+u6)+256 * ((u4+u5+u6+u7)+256 * ((u5+u6+u7)+256 * ((u6+u7)+256 * (u7))))))):=by rw [he,h2,hd'];clear he hf h2 hd' ec;omega
 clear he h2;have h3:e / 4294967296=(u4+u5+u6+u7)+256 * ((u5+u6+u7)+256 * ((u6+u7)+256 * (u7))):=by clear hf ec hd';omega
 have hf':f=(u0+u1+u2+u3+u4+u5+u6+u7)+256 * ((u1+u2+u3+u4+u5+u6+u7)+256 * ((u2+u3+u4+u5+u6+u7)+256 * ((u3+u4+u5+u6+u7)+256 * ((u4+u5+u6+u7)+256 * ((u5+u6+u7)+256 * ((u6+u7)+256 * (u7))))))):=by rw [hf,h3,he'];clear hf h3 he' hd' ec;omega
 clear hf h3;refine ⟨?_,?_,?_,?_⟩
 ·rw [hf'];clear hf' he' hd' ec;omega
 ·rw [hf'];clear hf' he' hd' ec;omega
 ·rw [he'];clear hf' he' hd' ec;omega
 ·rw [hd'];clear hf' he' hd' ec;omega
theorem lt8 {r0 r1 r2 r3 r4 r5 r6 r7 a:Nat} (h0:r0 < 256) (h1:r1 < 256) (h2:r2 < 256) (h3:r3 < 256) (h4:r4 < 256) (h5:r5 < 256) (h6:r6 < 256) (h7:r7 < 256)
  (ea:a=r0+256 * (r1+256 * (r2+256 * (r3+256 * (r4+256 * (r5+256 * (r6+256 * r7))))))):a < 2 ^ 64:=by omega
theorem lt8' {r0 r1 r2 r3 r4 r5 r6 r7 a:Nat} (h0:r0 < 256) (h1:r1 < 256) (h2:r2 < 256) (h3:r3 < 256) (h4:r4 < 256) (h5:r5 < 256) (h6:r6 < 256) (h7:r7 / 16≤4)
  (ea:a=r0+256 * (r1+256 * (r2+256 * (r3+256 * (r4+256 * (r5+256 * (r6+256 * r7))))))):a / 16+a < 2 ^ 64:=by omega
set_option maxRecDepth 10000 in
theorem swar {x:Nat} (hx:x < 2 ^ 64) {a b c d e f:Nat} (ha:a=(x / 2 &&& 6148914691236517205)+(x &&& 6148914691236517205)) (hb:b=(a / 4 &&& 3689348814741910323)+(a &&& 3689348814741910323))
  (hc:c=((b / 16+b) &&& 1085102592571150095)) (hd:d=c+c / 256) (he:e=d+d / 65536) (hf:f=e+e / 4294967296):f % 128=popN 64 x∧f < 2 ^ 62∧e < 2 ^ 64∧d < 2 ^ 64∧b / 16+b < 2 ^ 64∧a < 2 ^ 64∧b < 2 ^ 64:=by
 obtain ⟨b0,hb0⟩:∃ b0,b0=x % 256:=⟨_,rfl⟩;obtain ⟨b1,hb1⟩:∃ b1,b1=x / 256 % 256:=⟨_,rfl⟩;obtain ⟨b2,hb2⟩:∃ b2,b2=x / 65536 % 256:=⟨_,rfl⟩;obtain ⟨b3,hb3⟩:∃ b3,b3=x / 16777216 % 256:=⟨_,rfl⟩;obtain ⟨b4,hb4⟩:∃ b4,b4=x / 4294967296 % 256:=⟨_,rfl⟩;obtain ⟨b5,hb5⟩:∃ b5,b5=x / 1099511627776 % 256:=⟨_,rfl⟩;obtain ⟨b6,hb6⟩:∃ b6,b6=x / 281474976710656 % 256:=⟨_,rfl⟩;obtain ⟨b7,hb7⟩:∃ b7,b7=x / 72057594037927936:=⟨_,rfl⟩;have ex:x=b0+256 * (b1+256 * (b2+256 * (b3+256 * (b4+256 * (b5+256 * (b6+256 * b7)))))):=by omega
 have l0:b0 < 256:=by omega
 have l1:b1 < 256:=by omega
 have l2:b2 < 256:=by omega
 have l3:b3 < 256:=by omega
 have l4:b4 < 256:=by omega
 have l5:b5 < 256:=by omega
 have l6:b6 < 256:=by omega
 have l7:b7 < 256:=by omega
 have hp:popN 64 x=popN 8 b0+(popN 8 b1+(popN 8 b2+(popN 8 b3+(popN 8 b4+(popN 8 b5+(popN 8 b6+popN 8 b7)))))):=by
  rw [ex];rw [show (64:Nat)=8+56 from rfl,popN_split 8 56 b0 _ l0,show (56:Nat)=8+48 from rfl,show (256:Nat)=2 ^ 8 from rfl,popN_split 8 48 b1 _ l1,show (48:Nat)=8+40 from rfl,popN_split 8 40 b2 _ l2,show (40:Nat)=8+32 from rfl,popN_split 8 32 b3 _ l3,show (32:Nat)=8+24 from rfl,popN_split 8 24 b4 _ l4,show (24:Nat)=8+16 from rfl,popN_split 8 16 b5 _ l5,show (16:Nat)=8+8 from rfl,popN_split 8 8 b6 _ l6]
 clear hb0 hb1 hb2 hb3 hb4 hb5 hb6 hb7 hx;have p0:=byte_pop b0 l0;have p1:=byte_pop b1 l1;have p2:=byte_pop b2 l2;have p3:=byte_pop b3 l3;have p4:=byte_pop b4 l4;have p5:=byte_pop b5 l5;have p6:=byte_pop b6 l6;have p7:=byte_pop b7 l7
 have ea:a=g1 b0+256 * (g1 b1+256 * (g1 b2+256 * (g1 b3+256 * (g1 b4+256 * (g1 b5+256 * (g1 b6+256 * g1 b7)))))):=by
  rw [ha,ex];rw [show (6148914691236517205:Nat)=85+256 * 24019198012642645 from rfl,st1 _ _ _ l0,show (24019198012642645:Nat)=85+256 * 93824992236885 from rfl,st1 _ _ _ l1,show (93824992236885:Nat)=85+256 * 366503875925 from rfl,st1 _ _ _ l2,show (366503875925:Nat)=85+256 * 1431655765 from rfl,st1 _ _ _ l3,show (1431655765:Nat)=85+256 * 5592405 from rfl,st1 _ _ _ l4,show (5592405:Nat)=85+256 * 21845 from rfl,st1 _ _ _ l5,show (21845:Nat)=85+256 * 85 from rfl,st1 _ _ _ l6];rfl
 have eb:b=g2 (g1 b0)+256 * (g2 (g1 b1)+256 * (g2 (g1 b2)+256 * (g2 (g1 b3)+256 * (g2 (g1 b4)+256 * (g2 (g1 b5)+256 * (g2 (g1 b6)+256 * g2 (g1 b7))))))):=by
  rw [hb,ea];rw [show (3689348814741910323:Nat)=51+256 * 14411518807585587 from rfl,st2 _ _ _ p0.1,show (14411518807585587:Nat)=51+256 * 56294995342131 from rfl,st2 _ _ _ p1.1,show (56294995342131:Nat)=51+256 * 219902325555 from rfl,st2 _ _ _ p2.1,show (219902325555:Nat)=51+256 * 858993459 from rfl,st2 _ _ _ p3.1,show (858993459:Nat)=51+256 * 3355443 from rfl,st2 _ _ _ p4.1,show (3355443:Nat)=51+256 * 13107 from rfl,st2 _ _ _ p5.1,show (13107:Nat)=51+256 * 51 from rfl,st2 _ _ _ p6.1];rfl
 have ec:c=popN 8 b0+256 * (popN 8 b1+256 * (popN 8 b2+256 * (popN 8 b3+256 * (popN 8 b4+256 * (popN 8 b5+256 * (popN 8 b6+256 * popN 8 b7)))))):=by
  rw [hc,eb];rw [show (1085102592571150095:Nat)=15+256 * 4238682002231055 from rfl,st3 _ _ _ p0.2.1 p0.2.2.1 p0.2.2.2.1 (by omega),show (4238682002231055:Nat)=15+256 * 16557351571215 from rfl,st3 _ _ _ p1.2.1 p1.2.2.1 p1.2.2.2.1 (by omega),show (16557351571215:Nat)=15+256 * 64677154575 from rfl,st3 _ _ _ p2.2.1 p2.2.2.1 p2.2.2.2.1 (by omega),show (64677154575:Nat)=15+256 * 252645135 from rfl,st3 _ _ _ p3.2.1 p3.2.2.1 p3.2.2.2.1 (by omega),show (252645135:Nat)=15+256 * 986895 from rfl,st3 _ _ _ p4.2.1 p4.2.2.1 p4.2.2.2.1 (by omega),show (986895:Nat)=15+256 * 3855 from rfl,st3 _ _ _ p5.2.1 p5.2.2.1 p5.2.2.2.1 (by omega),show (3855:Nat)=15+256 * 15 from rfl,st3 _ _ _ p6.2.1 p6.2.2.1 p6.2.2.2.1 (by omega),p0.2.2.2.2.1,p1.2.2.2.2.1,p2.2.2.2.2.1,p3.2.2.2.2.1,p4.2.2.2.2.1,p5.2.2.2.2.1,p6.2.2.2.2.1,← p7.2.2.2.2.1];rfl
 rw [hp];have q0:=p0.2.2.2.2.2;have q1:=p1.2.2.2.2.2;have q2:=p2.2.2.2.2.2;have q3:=p3.2.2.2.2.2;have q4:=p4.2.2.2.2.2;have q5:=p5.2.2.2.2.2;have q6:=p6.2.2.2.2.2;have q7:=p7.2.2.2.2.2;have r0:=p0.1;have r1:=p1.1;have r2:=p2.1;have r3:=p3.1;have r4:=p4.1;have r5:=p5.1;have r6:=p6.1;have r7:=p7.1;have s0:=p0.2.1;have s1:=p1.2.1;have s2:=p2.2.1;have s3:=p3.2.1;have s4:=p4.2.1;have s5:=p5.2.1;have s6:=p6.2.1;have s7:=p7.2.1;have t7:=p7.2.2.2.1;have hs:=sum8 q0 q1 q2 q3 q4 q5 q6 q7 ec hd he hf;exact ⟨hs.1,hs.2.1,hs.2.2.1,hs.2.2.2,lt8' s0 s1 s2 s3 s4 s5 s6 t7 eb,lt8 r0 r1 r2 r3 r4 r5 r6 r7 ea,lt8 s0 s1 s2 s3 s4 s5 s6 s7 eb⟩
def qN (h:Nat) (p:Nat × Nat):Nat:=2 * (p.1 / 2 ^ h % 2)+p.2 / 2 ^ h % 2
def part (h:Nat) (l:List (Nat × Nat)) (q:Nat):List (Nat × Nat):=l.filter fun p=>qN h p == q
def parts (h:Nat) (l:List (Nat × Nat)):List (List (Nat × Nat)):=[part h l 0,part h l 1,part h l 2,part h l 3]
def num:List Nat→Nat
 | []=>0
 | w :: ws=>w+2 ^ 64 * num ws
theorem num_app:∀ (a b:List Nat),num (a ++ b)=num a+2 ^ (64 * a.length) * num b
 | [],b=>by show num b=0+2 ^ 0 * num b;omega
 | w :: a,b=>by
   show w+2 ^ 64 * num (a ++ b)=w+2 ^ 64 * num a+2 ^ (64 * (a.length+1)) * num b
   rw [num_app,Nat.mul_add,← Nat.mul_assoc,← Nat.pow_add,show 64+64 * a.length=64 * (a.length+1) from by omega];omega
theorem num_lt:∀ {ws:List Nat},(∀ x ∈ ws,x < 2 ^ 64)→num ws < 2 ^ (64 * ws.length)
 | [],_=>by show 0 < 2 ^ 0;decide
 | w :: ws,h=>by
   have h1:=num_lt (ws:=ws) (fun x hx=>h x (by simp [hx]));have h2:=h w (by simp)
   show w+2 ^ 64 * num ws < 2 ^ (64 * (ws.length+1))
   rw [show 64 * (ws.length+1)=64+64 * ws.length from by omega,Nat.pow_add];have h3:2 ^ 64 * (num ws+1)≤2 ^ 64 * 2 ^ (64 * ws.length):=Nat.mul_le_mul_left _ h1;rw [Nat.mul_add,Nat.mul_one] at h3;omega
theorem num_at {ws:List Nat} {q x:Nat} (h:ws[q]? = some x):num ws=num (ws.take q)+2 ^ (64 * q) * (x+2 ^ 64 * num (ws.drop (q+1))):=by
 obtain ⟨hq,rfl⟩:=List.getElem?_eq_some_iff.1 h;have e:num ws=num (ws.take q ++ ws.drop q):=by rw [List.take_append_drop]
 rw [e,num_app,List.drop_eq_getElem_cons hq];have hl:(ws.take q).length=q:=by rw [List.length_take];omega
 rw [hl];rfl
theorem num_get {ws:List Nat} {q r wd x:Nat} (hw:∀ x ∈ ws,x < 2 ^ 64) (h:ws[q]? = some x) (hov:r+wd≤64):num ws / 2 ^ (64 * q+r) % 2 ^ wd=x / 2 ^ r % 2 ^ wd:=by
 have hlo:=num_lt (ws:=ws.take q) (fun x hx=>hw x (List.mem_of_mem_take hx));have hl:(ws.take q).length=q:=by rw [List.length_take];have:=(List.getElem?_eq_some_iff.1 h).1;omega
 rw [hl] at hlo;rw [num_at h,Nat.pow_add,← Nat.div_div_eq_div_mul,Nat.add_mul_div_left _ _ (Nat.two_pow_pos _),Nat.div_eq_of_lt hlo,Nat.zero_add]
 rw [show 2 ^ 64 * num (ws.drop (q+1))=2 ^ r * (2 ^ wd * (2 ^ (64 - r - wd) * num (ws.drop (q+1)))) from by
  rw [← Nat.mul_assoc,← Nat.mul_assoc,← Nat.pow_add,← Nat.pow_add,show r+wd+(64 - r - wd)=64 from by omega]]
 rw [Nat.add_mul_div_left _ _ (Nat.two_pow_pos _),Nat.add_mul_mod_self_left]
theorem num_set {ws:List Nat} {q x:Nat} (h:ws[q]? = some x) (y:Nat):num (ws.set q y)+2 ^ (64 * q) * x=num ws+2 ^ (64 * q) * y:=by
 obtain ⟨hq,hx⟩:=List.getElem?_eq_some_iff.1 h;have h':(ws.set q y)[q]? = some y:=by rw [List.getElem?_set,if_pos rfl,if_pos hq]
 rw [num_at h',num_at h]
 have e1:(ws.set q y).take q=ws.take q:=by
  rw [List.set_eq_take_append_cons_drop,if_pos hq,List.take_append_of_le_length (by rw [List.length_take];omega),List.take_take,Nat.min_self]
 have e2:(ws.set q y).drop (q+1)=ws.drop (q+1):=by
  have hl:(ws.take q).length=q:=by rw [List.length_take];omega
  rw [List.set_eq_take_append_cons_drop,if_pos hq,List.drop_append,List.drop_of_length_le (by omega),hl,show q+1 - q=1 from by omega];rfl
 rw [e1,e2,Nat.mul_add,Nat.mul_add];omega
theorem num_word_le {ws:List Nat} {q x:Nat} (h:ws[q]? = some x):2 ^ (64 * q) * x≤num ws:=by
 rw [num_at h,Nat.mul_add];omega
theorem num_put1 {ws:List Nat} {q r n x:Nat} (h:ws[q]? = some x) (hz:num ws < 2 ^ (64 * q+r)):num (ws.set q (x ||| n * 2 ^ r))=num ws+n * 2 ^ (64 * q+r):=by
 have hx:x < 2 ^ r:=by
  have h1:=num_word_le h;rw [Nat.pow_add] at hz;exact Nat.lt_of_mul_lt_mul_left (Nat.lt_of_le_of_lt h1 hz)
 have e:=num_set h (x ||| n * 2 ^ r);rw [Nat.mul_comm n,Nat.or_comm,← Nat.two_pow_add_eq_or_of_lt hx,Nat.mul_add] at e;rw [Nat.mul_comm n (2 ^ r),Nat.or_comm,← Nat.two_pow_add_eq_or_of_lt hx];have e2:2 ^ (64 * q) * (2 ^ r * n)=n * 2 ^ (64 * q+r):=by rw [← Nat.mul_assoc,← Nat.pow_add,Nat.mul_comm]
 omega
theorem num_put2 {ws:List Nat} {q r s n x y:Nat} (h:ws[q]? = some x) (h2:ws[q+1]? = some y) (hs:r+s=64) (hz:num ws < 2 ^ (64 * q+r)) :
  y=0∧num ((ws.set q (x ||| n * 2 ^ r % 2 ^ 64)).set (q+1) (y ||| n / 2 ^ s))=num ws+n * 2 ^ (64 * q+r):=by
 have hx:x < 2 ^ r:=by
  have h1:=num_word_le h;rw [Nat.pow_add] at hz;exact Nat.lt_of_mul_lt_mul_left (Nat.lt_of_le_of_lt h1 hz)
 have hy:y=0:=by
  have h1:=num_word_le h2;rcases Nat.eq_zero_or_pos y with h0 | h0
  ·exact h0
  ·have h3:2 ^ (64 * (q+1)) * 1≤2 ^ (64 * (q+1)) * y:=Nat.mul_le_mul_left _ h0;have h4:2 ^ (64 * q+r)≤2 ^ (64 * (q+1)):=Nat.pow_le_pow_right (by omega) (by omega);omega
 subst hy;refine ⟨rfl,?_⟩;have e64':(2:Nat) ^ 64=2 ^ r * 2 ^ s:=by rw [← Nat.pow_add,hs]
 have a2:n * 2 ^ r % 2 ^ 64=2 ^ r * (n % 2 ^ s):=by rw [e64',Nat.mul_comm n,Nat.mul_mod_mul_left]
 have e:=num_set h (x ||| n * 2 ^ r % 2 ^ 64);rw [a2,Nat.or_comm,← Nat.two_pow_add_eq_or_of_lt hx] at e;have h2':(ws.set q (x ||| n * 2 ^ r % 2 ^ 64))[q+1]? = some 0:=by rw [List.getElem?_set,if_neg (by omega)];exact h2
 have e3:=num_set h2' (0 ||| n / 2 ^ s);rw [Nat.mul_zero,Nat.add_zero,Nat.zero_or] at e3;rw [Nat.zero_or,e3,a2,Nat.or_comm,← Nat.two_pow_add_eq_or_of_lt hx]
 have e4:n * 2 ^ (64 * q+r)=2 ^ (64 * q) * (2 ^ r * (n % 2 ^ s))+2 ^ (64 * (q+1)) * (n / 2 ^ s):=by
  have b1:n=2 ^ s * (n / 2 ^ s)+n % 2 ^ s:=(Nat.div_add_mod n (2 ^ s)).symm;have t1:2 ^ (64 * q+r)=2 ^ (64 * q) * 2 ^ r:=Nat.pow_add _ _ _
  have t2:2 ^ s * (2 ^ (64 * q) * 2 ^ r)=2 ^ (64 * (q+1)):=by
   rw [← Nat.pow_add,← Nat.pow_add];exact congrArg (2 ^ ·) (by omega)
  rw [t1];clear e e3 h h2 h2' hz hx a2 e64'
  generalize n / 2 ^ s=Bq at *
  generalize n % 2 ^ s=A at *
  generalize 2 ^ (64 * (q+1))=Z at *
  generalize 2 ^ (64 * q)=P at *
  generalize 2 ^ r=R at *
  generalize 2 ^ s=T at *
  subst b1;rw [← t2,Nat.add_mul,Nat.add_comm,Nat.mul_comm A,Nat.mul_assoc P R A,Nat.mul_comm T Bq,Nat.mul_assoc Bq T,Nat.mul_comm Bq]
 rw [Nat.mul_add] at e;rw [e4];clear e4 e64' a2 h2 h2' h hz hx e3
 generalize 2 ^ (64 * q) * (2 ^ r * (n % 2 ^ s))=U at *
 generalize 2 ^ (64 * (q+1)) * (n / 2 ^ s)=V at *
 generalize 2 ^ (64 * q) * x=X at *
 omega
theorem byte_step {M a b j:Nat} (hM:M < 2 ^ a) (hb:b≤1):(M+b * 2 ^ a) / 2 ^ (8 * j) % 256=M / 2 ^ (8 * j) % 256+(if j=a / 8 then b * 2 ^ (a % 8) else 0):=by
 rcases Nat.lt_trichotomy j (a / 8) with h | h | h
 ·rw [if_neg (by omega)]
  have e:2 ^ a=2 ^ (8 * j) * (256 * 2 ^ (a - 8 * j - 8)):=by
   rw [show (256:Nat)=2 ^ 8 from rfl,← Nat.pow_add,← Nat.pow_add];exact congrArg (2 ^ ·) (by omega)
  rw [e,Nat.mul_comm b,Nat.mul_assoc,Nat.add_mul_div_left _ _ (Nat.two_pow_pos _),Nat.mul_assoc,Nat.add_mul_mod_self_left,Nat.add_zero]
 ·rw [if_pos h]
  have e:2 ^ a=2 ^ (8 * j) * 2 ^ (a % 8):=by
   rw [← Nat.pow_add];exact congrArg (2 ^ ·) (by omega)
  have h1:M / 2 ^ (8 * j) < 2 ^ (a % 8):=by rw [Nat.div_lt_iff_lt_mul (Nat.two_pow_pos _),Nat.mul_comm,← e];exact hM
  have h2:2 ^ (a % 8)≤2 ^ 7:=Nat.pow_le_pow_right (by omega) (by omega);have h3:b * 2 ^ (a % 8)≤1 * 2 ^ (a % 8):=Nat.mul_le_mul_right _ hb;rw [e,Nat.mul_comm b (2 ^ (8 * j) * 2 ^ (a % 8)),Nat.mul_assoc,Nat.add_mul_div_left _ _ (Nat.two_pow_pos _),Nat.mul_comm (2 ^ (a % 8)) b]
  generalize M / 2 ^ (8 * j)=X at *
  generalize b * 2 ^ (a % 8)=Y at *
  generalize 2 ^ (a % 8)=Z at *
  omega
 ·rw [if_neg (by omega),Nat.add_zero];have h1:2 ^ (a+1)≤2 ^ (8 * j):=Nat.pow_le_pow_right (by omega) (by omega);have h2:2 ^ (a+1)=2 * 2 ^ a:=by rw [Nat.pow_succ,Nat.mul_comm]
  have h3:b * 2 ^ a≤1 * 2 ^ a:=Nat.mul_le_mul_right _ hb;rw [Nat.div_eq_of_lt (by omega),Nat.div_eq_of_lt (by omega)]
theorem mod_step (N a:Nat):N % 2 ^ (a+1)=N % 2 ^ a+(N / 2 ^ a % 2) * 2 ^ a:=by
 rw [Nat.pow_succ,Nat.mod_mul,Nat.mul_comm (2 ^ a)]
def argm (f:Nat→Nat):Nat→Nat
 | 0=>0
 | m+1=>if f (m+1) < f (argm f m) then m+1 else argm f m
theorem argm_le (f:Nat→Nat) (m:Nat):argm f m≤m:=by
 induction m with
 | zero=>simp [argm]
 | succ m ih=>unfold argm;split <;> omega
theorem argm_min (f:Nat→Nat) (m:Nat):∀ k,k≤m→f (argm f m)≤f k:=by
 induction m with
 | zero=>intro k hk;rw [show k=0 from by omega];simp [argm]
 | succ m ih =>
   intro k hk;unfold argm
   split
   ·rename_i h
    by_cases hkm:k=m+1
    ·rw [hkm];omega
    ·have:=ih k (by omega);omega
   ·rename_i h
    by_cases hkm:k=m+1
    ·rw [hkm];omega
    ·exact ih k (by omega)
theorem argm_first (f:Nat→Nat) (m:Nat):∀ k,k < argm f m→f (argm f m) < f k:=by
 induction m with
 | zero=>intro k hk;simp [argm] at hk
 | succ m ih =>
   intro k hk;unfold argm at hk ⊢
   split
   ·rename_i h
    rw [if_pos h] at hk;have:=argm_min f m k (by omega);omega
   ·rename_i h
    rw [if_neg h] at hk;exact ih k hk
theorem argm_congr {f g:Nat→Nat} {m:Nat} (h:∀ k,k≤m→f k=g k):argm f m=argm g m:=by
 induction m with
 | zero=>rfl
 | succ m ih =>
   have e:=ih (fun k hk=>h k (by omega));unfold argm;rw [e,h (m+1) (Nat.le_refl _),h (argm g m) (Nat.le_succ_of_le (argm_le g m))]

def pre (w:Nat→Nat):Nat→Nat
 | 0=>0
 | n+1=>pre w n+w n
theorem pre_mono (w:Nat→Nat) {a b:Nat} (h:a≤b):pre w a≤pre w b:=by
 induction b with
 | zero=>rw [show a=0 from by omega];exact Nat.le_refl _
 | succ b ih =>
   by_cases hab:a=b+1
   ·rw [hab];exact Nat.le_refl _
   ·have:=ih (by omega);simp only [pre]
    omega

def cst (w:Nat→Nat):Nat→Nat→Nat
 | 0,_=>0
 | n+1,i =>
   pre w (i+n+2) - pre w i +
    (fun f:Nat→Nat=>f (argm f n)) (fun k=>if _h:k≤n then cst w k i+cst w (n - k) (i+k+1) else 0)
termination_by n=>n
def spl (w:Nat→Nat) (n i k:Nat):Nat:=cst w k i+cst w (n - k) (i+k+1)
def cut (w:Nat→Nat) (n i:Nat):Nat:=argm (spl w n i) n
theorem cst_zero (w:Nat→Nat) (i:Nat):cst w 0 i=0:=by unfold cst;rfl
theorem cst_succ (w:Nat→Nat) (n i:Nat):cst w (n+1) i=pre w (i+n+2) - pre w i+spl w n i (cut w n i):=by
 rw [cst];have e:∀ k,k≤n→(if _h:k≤n then cst w k i+cst w (n - k) (i+k+1) else 0)=spl w n i k:=fun k hk=>by rw [dif_pos hk];rfl
 show _+(if _h:argm _ n≤n then _ else 0)=_
 rw [argm_congr e]
 congr 1
 exact e _ (argm_le _ _)

def C (w:Nat→Nat) (i j:Nat):Nat:=cst w (j - i) i
def S (w:Nat→Nat) (i j:Nat):Nat:=pre w (j+1) - pre w i
def K (w:Nat→Nat) (i j:Nat):Nat:=i+1+cut w (j - i - 1) i
theorem C_self (w:Nat→Nat) (i:Nat):C w i i=0:=by unfold C;rw [Nat.sub_self,cst_zero]
theorem K_bound (w:Nat→Nat) {i j:Nat} (h:i < j):i < K w i j∧K w i j≤j:=by
 have:=argm_le (spl w (j - i - 1) i) (j - i - 1);unfold K cut;omega
theorem spl_C (w:Nat→Nat) {i j k:Nat} (h:i < k) (hk:k≤j):spl w (j - i - 1) i (k - i - 1)=C w i (k - 1)+C w k j:=by
 unfold spl C;rw [show k - 1 - i=k - i - 1 from by omega,show j - i - 1 - (k - i - 1)=j - k from by omega,show i+(k - i - 1)+1=k from by omega]
theorem C_eq (w:Nat→Nat) {i j:Nat} (h:i < j):C w i j=S w i j+(C w i (K w i j - 1)+C w (K w i j) j):=by
 rw [← spl_C w (K_bound w h).1 (K_bound w h).2];have e:K w i j - i - 1=cut w (j - i - 1) i:=by unfold K;omega
 rw [e];unfold C S;obtain ⟨n,hn⟩:∃ n,j - i=n+1:=⟨j - i - 1,by omega⟩;rw [hn,cst_succ,show i+n+2=j+1 from by omega,show n+1 - 1=n from rfl]
theorem K_min (w:Nat→Nat) {i j k:Nat} (h:i < k) (hk:k≤j):C w i (K w i j - 1)+C w (K w i j) j≤C w i (k - 1)+C w k j:=by
 rw [← spl_C w (K_bound w (by omega)).1 (K_bound w (by omega)).2,← spl_C w h hk];have e:K w i j - i - 1=cut w (j - i - 1) i:=by unfold K;omega
 rw [e];exact argm_min _ _ _ (by omega)
theorem K_first (w:Nat→Nat) {i j k:Nat} (h:i < k) (hj:i < j) (hk:k < K w i j):C w i (K w i j - 1)+C w (K w i j) j < C w i (k - 1)+C w k j:=by
 have hb:=K_bound w hj;rw [← spl_C w hb.1 hb.2,← spl_C w h (by omega)];have e:K w i j - i - 1=cut w (j - i - 1) i:=by unfold K;omega
 rw [e];exact argm_first _ _ _ (by unfold K cut at *;omega)
theorem C_le (w:Nat→Nat) {i j k:Nat} (h:i < k) (hk:k≤j):C w i j≤S w i j+(C w i (k - 1)+C w k j):=by
 rw [C_eq w (by omega)];have:=K_min w h hk;omega

theorem C_quad (w:Nat→Nat):∀ (n i i' j j':Nat),j' - i=n→i≤i'→i'≤j→j≤j'→C w i j+C w i' j'≤C w i j' + C w i' j:=by
 intro n
 induction n using Nat.strongRecOn with
 | ind n ih =>
   intro i i' j j' hn h1 h2 h3;rcases Nat.eq_or_lt_of_le h1 with h1 | h1
   ·subst h1;omega
   rcases Nat.eq_or_lt_of_le h3 with h3 | h3
   ·subst h3;omega
   have hS1:S w i j≤S w i j':=by have:=pre_mono w (show j+1≤j' + 1 by omega);unfold S;omega
   have hS2:S w i' j'≤S w i j':=by have:=pre_mono w (show i≤i' by omega);unfold S;omega
   have hS3:S w i j+S w i' j'=S w i j' + S w i' j:=by
    have a:=pre_mono w (show j+1≤j' + 1 by omega);have b:=pre_mono w (show i≤i' by omega);have c:=pre_mono w (show i'≤j+1 by omega);unfold S;omega
   obtain ⟨z,hz⟩:∃ z,z=K w i j':=⟨_,rfl⟩;have hzb:=K_bound w (show i < j' by omega);have hze:=C_eq w (show i < j' by omega);rw [← hz] at hzb hze;rcases Nat.eq_or_lt_of_le h2 with h2 | h2
   ·subst h2;rw [C_self];by_cases hzj:z≤i'
    ·have a:=C_le w hzb.1 hzj;have b:=ih (j' - z) (by omega) z i' i' j' rfl hzj (Nat.le_refl _) (by omega);rw [C_self] at b;omega
    ·have a:=C_le w (show i' < z by omega) hzb.2;have b:=ih (z - 1 - i) (by omega) i i' i' (z - 1) rfl (by omega) (Nat.le_refl _) (by omega);rw [C_self] at b;omega
   ·obtain ⟨y,hy⟩:∃ y,y=K w i' j:=⟨_,rfl⟩;have hyb:=K_bound w h2;have hye:=C_eq w h2;rw [← hy] at hyb hye;by_cases hzy:z≤y
    ·have a:=C_le w hzb.1 (show z≤j by omega);have b:=C_le w hyb.1 (show y≤j' by omega);have c:=ih (j' - z) (by omega) z y j j' rfl hzy hyb.2 (by omega);omega
    ·have a:=C_le w (show i < y by omega) hyb.2;have b:=C_le w (show i' < z by omega) hzb.2;have c:=ih (z - 1 - i) (by omega) i i' (y - 1) (z - 1) rfl (by omega) (by omega) (by omega);omega
theorem K_low (w:Nat→Nat) {i j:Nat} (h:i < j):K w i j≤K w i (j+1):=by
 rcases Nat.lt_or_ge (K w i (j+1)) (K w i j) with hk | hk
 ·have b1:=K_bound w h;have b2:=K_bound w (show i < j+1 by omega);have a:=K_first w b2.1 h hk;have b:=K_min w b1.1 (show K w i j≤j+1 by omega);have c:=C_quad w _ (K w i (j+1)) (K w i j) j (j+1) rfl (by omega) b1.2 (by omega);omega
 ·exact hk
theorem K_high (w:Nat→Nat) {i j:Nat} (h:i+1 < j):K w i j≤K w (i+1) j:=by
 rcases Nat.lt_or_ge (K w (i+1) j) (K w i j) with hk | hk
 ·have b1:=K_bound w (show i < j by omega);have b2:=K_bound w h;have a:=K_first w (show i < K w (i+1) j by omega) (show i < j by omega) hk;have b:=K_min w (i:=i+1) (show i+1 < K w i j by omega) b1.2;have c:=C_quad w _ i (i+1) (K w (i+1) j - 1) (K w i j - 1) rfl (by omega) (by omega) (by omega);omega
 ·exact hk
def lensF (w:Nat→Nat):Nat→Nat→Nat→Nat→List Int
 | 0,_,_,d=>[(d:Int)]
 | f+1,i,j,d=>if i < j then lensF w f i (K w i j - 1) (d+1) ++ lensF w f (K w i j) j (d+1) else [(d:Int)]
def lens (w:Nat→Nat) (i j d:Nat):List Int:=lensF w (j - i) i j d
theorem lensF_fuel (w:Nat→Nat):∀ (f g i j d:Nat),j - i≤f→j - i≤g→lensF w f i j d=lensF w g i j d:=by
 intro f
 induction f with
 | zero =>
   intro g i j d h _
   cases g with
   | zero=>rfl
   | succ g=>show _=if i < j then _ else _;rw [if_neg (by omega)];rfl
 | succ f ih =>
   intro g i j d h hg
   show (if i < j then _ else _)=_
   by_cases hij:i < j
   ·have hb:=K_bound w hij;rw [if_pos hij]
    cases g with
    | zero=>omega
    | succ g =>
      show _=if i < j then _ else _
      rw [if_pos hij,ih g _ _ _ (by omega) (by omega),ih g (K w i j) _ _ (by omega) (by omega)]
   ·rw [if_neg hij]
    cases g with
    | zero=>rfl
    | succ g=>show _=if i < j then _ else _;rw [if_neg hij]
theorem lens_self (w:Nat→Nat) (i d:Nat):lens w i i d=[(d:Int)]:=by unfold lens;rw [Nat.sub_self];rfl
theorem lens_cut (w:Nat→Nat) {i j:Nat} (d:Nat) (h:i < j):lens w i j d=lens w i (K w i j - 1) (d+1) ++ lens w (K w i j) j (d+1):=by
 have hb:=K_bound w h;unfold lens;rw [lensF_fuel w (j - i) (j - i - 1+1) i j d (by omega) (by omega)]
 show (if i < j then _ else _)=_
 rw [if_pos h,lensF_fuel w _ (K w i j - 1 - i) _ _ _ (by omega) (by omega),lensF_fuel w _ (j - K w i j) (K w i j) _ _ (by omega) (by omega)]
theorem lens_len (w:Nat→Nat):∀ (n i j d:Nat),j - i=n→i≤j→(lens w i j d).length=j - i+1:=by
 intro n
 induction n using Nat.strongRecOn with
 | ind n ih =>
   intro i j d hn hij;rcases Nat.eq_or_lt_of_le hij with e | e
   ·subst e;rw [lens_self];simp
   ·have b:=K_bound w e;rw [lens_cut w d e,List.length_append,ih (K w i j - 1 - i) (by omega) _ _ _ rfl (by omega),ih (j - K w i j) (by omega) _ _ _ rfl (by omega)];omega
def laidAt {α:Type} (xs:List α) (i:Nat) (ys:List α):List α:=xs.take i ++ ys ++ xs.drop (i+ys.length)
theorem laidAt_len {α:Type} {xs:List α} {i:Nat} {ys:List α} (h:i+ys.length≤xs.length):(laidAt xs i ys).length=xs.length:=by
 unfold laidAt;rw [List.length_append,List.length_append,List.length_take,List.length_drop];omega
theorem laidAt_one {α:Type} {xs:List α} {i:Nat} (y:α) (h:i < xs.length):laidAt xs i [y]=xs.set i y:=by
 unfold laidAt;rw [List.set_eq_take_append_cons_drop,if_pos h,List.append_assoc];rfl
theorem laidAt_two {α:Type} {xs:List α} {i k:Nat} {a b:List α} (hk:k=i+a.length) (h:i+a.length+b.length≤xs.length):laidAt (laidAt xs i a) k b=laidAt xs i (a ++ b):=by
 subst hk;unfold laidAt;have e1:(List.take i xs ++ a).length=i+a.length:=by rw [List.length_append,List.length_take];omega
 rw [List.take_append_of_le_length (by omega),List.take_of_length_le (by omega)];rw [List.drop_append,List.drop_of_length_le (by omega),e1,List.drop_drop,List.nil_append,List.length_append];rw [show i+a.length+(i+a.length+b.length - (i+a.length))=i+(a.length+b.length) from by omega];simp only [List.append_assoc]
theorem laidAt_all {α:Type} {xs ys:List α} (h:ys.length=xs.length):laidAt xs 0 ys=ys:=by
 unfold laidAt;rw [List.drop_of_length_le (by omega)]
 simp

inductive Dl:Int→List Int→Prop where
 | leaf (d:Int):Dl d [d]
 | node {d:Int} {a b:List Int}:Dl (d+1) a→Dl (d+1) b→Dl d (a ++ b)
theorem lens_dl (w:Nat→Nat):∀ (n i j d:Nat),j - i=n→i≤j→Dl (d:Int) (lens w i j d):=by
 intro n
 induction n using Nat.strongRecOn with
 | ind n ih =>
   intro i j d hn hij;rcases Nat.eq_or_lt_of_le hij with e | e
   ·subst e;rw [lens_self];exact .leaf _
   ·have b:=K_bound w e;rw [lens_cut w d e];exact .node (ih (K w i j - 1 - i) (by omega) i (K w i j - 1) (d+1) rfl (by omega)) (ih (j - K w i j) (by omega) (K w i j) j (d+1) rfl (by omega))
theorem Dl.pos {d:Int} {l:List Int} (h:Dl d l):0 < l.length:=by
 induction h with
 | leaf d=>simp
 | node _ _ h1 h2=>rw [List.length_append];omega
theorem Dl.bound {d:Int} {l:List Int} (h:Dl d l):∀ x ∈ l,d≤x∧x≤d+l.length - 1∧(1 < l.length→d < x):=by
 induction h with
 | leaf d=>intro x hx;simp at hx;subst hx;simp
 | node h1 h2 i1 i2 =>
   rename_i d a b
   have p1:=h1.pos;have p2:=h2.pos;intro x hx;rw [List.length_append];rcases List.mem_append.1 hx with hx | hx
   ·have:=i1 x hx;omega
   ·have:=i2 x hx;omega
theorem Dl.one {d:Int} {l:List Int} (h:Dl d l) (hx:∀ y ∈ l,y≤d):l=[d]:=by
 cases h with
 | leaf=>rfl
 | node h1 h2 =>
   rename_i a b
   have p1:=h1.pos;obtain ⟨y,a',rfl⟩:=List.exists_cons_of_ne_nil (List.ne_nil_of_length_pos p1);have:=h1.bound y (by simp);have:=hx y (by simp);omega

def ins:List Int→Int→Option (List Int)
 | [],n=>some [n]
 | t :: s,n=>if t=n then ins s (n - 1) else if n < t then none else some (n :: t :: s)
def procT (m:Int):List Int→List Int→Option (List Int)
 | s,[]=>some s
 | s,n :: l=>if 1≤n∧n < m then (ins s n).bind fun s'=>procT m s' l else none
theorem procT_cons (m n:Int) (s l:List Int):procT m s (n :: l)=if 1≤n∧n < m then (ins s n).bind fun s'=>procT m s' l else none:=by rw [procT]
def Segs:List Int→List Int→Prop
 | [],l=>l=[]
 | t :: s,l=>∃ a b,l=a ++ b∧Segs s a∧Dl t b
theorem ins_segs:∀ {s:List Int} {n:Int} {a b:List Int} {r:List Int},Segs s a→Dl n b→ins s n=some r→Segs r (a ++ b)
 | [],n,a,b,r,hs,hb,hr=>by
   injection hr with hr
   subst hr;exact ⟨[],b,by rw [hs],rfl,hb⟩
 | t :: s,n,a,b,r,hs,hb,hr=>by
   unfold ins at hr;obtain ⟨a1,a2,rfl,h1,h2⟩:=hs;by_cases htn:t=n
   ·rw [if_pos htn] at hr;subst htn;rw [List.append_assoc];refine ins_segs h1 ?_ hr;exact .node (by rw [show t - 1+1=t from by omega];exact h2) (by rw [show t - 1+1=t from by omega];exact hb)
   ·rw [if_neg htn] at hr;by_cases hlt:n < t
    ·rw [if_pos hlt] at hr;cases hr
    ·rw [if_neg hlt] at hr;injection hr with hr
     subst hr;exact ⟨_,b,rfl,⟨a1,a2,rfl,h1,h2⟩,hb⟩
theorem procT_segs {m:Int}:∀ {l s a r:List Int},Segs s a→procT m s l=some r→Segs r (a ++ l)
 | [],s,a,r,hs,hr=>by injection hr with hr;subst hr;simpa using hs
 | n :: l,s,a,r,hs,hr=>by
   unfold procT at hr;by_cases hn:1≤n∧n < m
   ·rw [if_pos hn] at hr
    cases hi:ins s n with
    | none=>rw [hi] at hr;cases hr
    | some s' =>
      rw [hi] at hr;have:=procT_segs (ins_segs hs (.leaf n) hi) hr;simpa using this
   ·rw [if_neg hn] at hr;cases hr
def Ris:List Int→Prop
 | t :: u :: s=>u < t∧Ris (u :: s)
 | _=>True
theorem Ris.tl {t:Int} {s:List Int} (h:Ris (t :: s)):Ris s:=by
 cases s with
 | nil=>trivial
 | cons u s=>exact h.2
def Top (s:List Int) (n:Int):Prop:=∀ t ∈ s.head?,t≤n
theorem ins_some:∀ {s:List Int} {n:Int},Ris s→Top s n→∃ r,ins s n=some r∧Ris r
 | [],n,_,_=>⟨_,rfl,trivial⟩
 | t :: s,n,hr,ht=>by
   unfold ins;have htn:=ht t (by simp);by_cases he:t=n
   ·rw [if_pos he];refine ins_some hr.tl ?_;intro u hu
    cases s with
    | nil=>simp at hu
    | cons v s =>
      simp at hu
      subst hu;have:=hr.1;omega
   ·rw [if_neg he,if_neg (by omega)];exact ⟨_,rfl,⟨by omega,hr⟩⟩
theorem ins_plain {s:List Int} {n:Int} (ht:∀ t ∈ s.head?,t < n):ins s n=some (n :: s):=by
 cases s with
 | nil=>rfl
 | cons t s =>
   have:=ht t (by simp);unfold ins;rw [if_neg (by omega),if_neg (by omega)]
theorem procT_app {m:Int}:∀ {a b s:List Int},procT m s (a ++ b)=(procT m s a).bind fun r=>procT m r b
 | [],b,s=>rfl
 | n :: a,b,s=>by
   rw [List.cons_append,procT_cons,procT_cons];by_cases hn:1≤n∧n < m
   ·rw [if_pos hn,if_pos hn]
    cases hi:ins s n with
    | none=>rfl
    | some s' =>
      simp only [Option.bind_some]
      exact procT_app
   ·rw [if_neg hn,if_neg hn];rfl
theorem procT_dl {m:Int} {d:Int} {l:List Int} (h:Dl d l):∀ {s:List Int},(∀ x ∈ l,1≤x∧x < m)→Top s d→Ris s→procT m s l=ins s d:=by
 induction h with
 | leaf d =>
   intro s hx ht hr;unfold procT;rw [if_pos (hx d (by simp))];obtain ⟨r,h,_⟩:=ins_some hr ht;rw [h];rfl
 | node h1 h2 i1 i2 =>
   rename_i d a b
   intro s hx ht hr;rw [procT_app,i1 (fun x h=>hx x (by simp [h])) (fun t h=>by have:=ht t h;omega) hr,ins_plain (fun t h=>by have:=ht t h;omega)]
   show procT m _ b=_
   have hr2:Ris ((d+1) :: s):=by
    cases s with
    | nil=>trivial
    | cons t s=>exact ⟨by have:=ht t (by simp);omega,hr⟩
   rw [i2 (fun x h=>hx x (by simp [h])) (fun t h=>by simp at h;omega) hr2]
   show (if d+1=d+1 then ins s (d+1 - 1) else _)=_
   rw [if_pos rfl,show d+1 - 1=d from by omega]
theorem procT_iff {l:List Int} (h2:2≤l.length):procT (l.length:Int) [] l=some [0] ↔ Dl 0 l:=by
 constructor
 ·intro h;obtain ⟨a,b,e,h1,h2⟩:=procT_segs (s:=[]) (a:=[]) rfl h;rw [h1] at e
  simp at e
  rw [e];exact h2
 ·intro h;rw [procT_dl h (s:=[]) (fun x hx=>by have:=h.bound x hx;omega) (fun t h=>by simp at h) trivial];rfl

theorem Dl.split {e d:Int} {l:List Int} (h:Dl e l):∀ {l1 l2:List Int},l=l1 ++ d :: l2→Dl e (l1 ++ (d+1) :: (d+1) :: l2):=by
 induction h with
 | leaf e =>
   intro l1 l2 hl
   cases l1 with
   | nil =>
     simp at hl
     obtain ⟨rfl,rfl⟩:=hl;exact .node (a:=[e+1]) (b:=[e+1]) (.leaf _) (.leaf _)
   | cons x l1=>simp at hl
 | node h1 h2 i1 i2 =>
   rename_i e a b
   intro l1 l2 hl;rcases List.append_eq_append_iff.1 hl with ⟨m,e1,e2⟩ | ⟨m,e1,e2⟩
   ·rw [e1,List.append_assoc];exact .node h1 (i2 e2)
   ·cases m with
    | nil =>
      simp at e1 e2
      subst e1;exact .node h1 (i2 (l1:=[]) e2.symm)
    | cons x m =>
      simp at e2
      obtain ⟨rfl,rfl⟩:=e2;have:=Dl.node (i1 e1) h2;simpa using this
theorem Dl.merge {e d:Int} {l:List Int} (h:Dl e l):∀ {l1 l2:List Int},l=l1 ++ d :: l2→2≤l.length→(∀ x ∈ l1,x < d)→(∀ x ∈ l2,x≤d)→∃ l3,l2=d :: l3∧Dl e (l1 ++ (d - 1) :: l3):=by
 induction h with
 | leaf e=>intro l1 l2 hl h2;simp at h2
 | node h1 h2 i1 i2 =>
   rename_i e a b
   intro l1 l2 hl hlen hx hy;rcases List.append_eq_append_iff.1 hl with ⟨m,e1,e2⟩ | ⟨m,e1,e2⟩
   ·
    have hb:2≤b.length:=by
     rcases Nat.lt_or_ge b.length 2 with hb | hb
     ·obtain ⟨x,rfl⟩:∃ x,b=[x]:=List.length_eq_one_iff.1 (by have:=h2.pos;omega)
      have hm:m=[]:=by cases m with
       | nil=>rfl
       | cons y m=>simp at e2
      subst hm
      simp at e1 e2
      obtain ⟨rfl,rfl⟩:=e2;subst e1;obtain ⟨y,l1',rfl⟩:=List.exists_cons_of_ne_nil (List.ne_nil_of_length_pos h1.pos);have q1:=hx y (by simp);have q2:=h1.bound y (by simp);have q3:Dl (e+1) [x]:=h2;have q4:=q3.bound x (by simp)
      simp at q4
      omega
     ·exact hb
    obtain ⟨l3,r1,r2⟩:=i2 e2 hb (fun x hx'=>hx x (by rw [e1];simp [hx'])) hy;exact ⟨l3,r1,by rw [e1,List.append_assoc];exact .node h1 r2⟩
   ·cases m with
    | nil =>
      simp at e1 e2
      subst e1
      have hb:2≤b.length:=by
       rcases Nat.lt_or_ge b.length 2 with hb | hb
       ·obtain ⟨x,rfl⟩:∃ x,b=[x]:=List.length_eq_one_iff.1 (by have:=h2.pos;omega)
        simp at e2
        obtain ⟨rfl,rfl⟩:=e2;obtain ⟨y,l1',rfl⟩:=List.exists_cons_of_ne_nil (List.ne_nil_of_length_pos h1.pos);have q1:=hx y (by simp);have q2:=h1.bound y (by simp);have q4:=h2.bound d (by simp)
        simp at q4
        omega
       ·exact hb
      obtain ⟨l3,r1,r2⟩:=i2 (l1:=[]) e2.symm hb (fun x h=>by simp at h) hy;exact ⟨l3,r1,.node h1 r2⟩
    | cons x m =>
      simp at e2
      obtain ⟨rfl,rfl⟩:=e2;rcases Nat.lt_or_ge a.length 2 with ha | ha
      ·obtain ⟨x,rfl⟩:∃ x,a=[x]:=List.length_eq_one_iff.1 (by have:=h1.pos;omega)
       have hl1:l1=[]:=by cases l1 with
        | nil=>rfl
        | cons y l1=>simp at e1
       subst hl1
       simp at e1
       obtain ⟨rfl,rfl⟩:=e1;have q:=h1.bound x (by simp)
       simp at q
       have hxe:x=e+1:=by omega
       subst hxe;have hbb:=h2.one (fun y h=>hy y (by simp [h]));subst hbb;exact ⟨[],rfl,by rw [show e+1 - 1=e from by omega];exact .leaf _⟩
      ·obtain ⟨l3,r1,r2⟩:=i1 e1 ha hx (fun x h=>hy x (by simp [h]));exact ⟨l3 ++ b,by rw [r1];rfl,by have:=Dl.node r2 h2;simpa using this⟩
inductive CT where
 | nil
 | leaf (s:Nat)
 | node (a b:CT)
def CT.al:CT→List Bool→List (Nat × List Bool)
 | .nil,_=>[]
 | .leaf s,p=>[(s,p)]
 | .node a b,p=>a.al (p ++ [false]) ++ b.al (p ++ [true])
def CT.Full:CT→Prop
 | .nil=>False
 | .leaf _=>True
 | .node a b=>a.Full∧b.Full
def CT.sub:CT→List Bool→CT
 | t,[]=>t
 | .node a _,false :: l=>a.sub l
 | .node _ b,true :: l=>b.sub l
 | .nil,_ :: _=>.nil
 | .leaf _,_ :: _=>.nil
theorem CT.sub_nil (t:CT):t.sub []=t:=by cases t <;> rfl
theorem CT.sub_none (l:List Bool):CT.nil.sub l=.nil:=by
 rcases l with _ | ⟨b,l⟩
 ·rfl
 ·cases b <;> rfl
theorem CT.sub_leaf (s:Nat) (b:Bool) (l:List Bool):(CT.leaf s).sub (b :: l)=.nil:=by cases b <;> rfl
theorem CT.sub_app:∀ (t:CT) (l m:List Bool),t.sub (l ++ m)=(t.sub l).sub m
 | t,[],m=>by rw [CT.sub_nil,List.nil_append]
 | .nil,b :: l,m=>by rw [CT.sub_none,CT.sub_none,CT.sub_none]
 | .leaf _,b :: l,m=>by rw [List.cons_append,CT.sub_leaf,CT.sub_leaf,CT.sub_none]
 | .node x y,false :: l,m=>by rw [List.cons_append];simp only [CT.sub];exact CT.sub_app x l m
 | .node x y,true :: l,m=>by rw [List.cons_append];simp only [CT.sub];exact CT.sub_app y l m
theorem ct_of_dl {d:Int} {ls:List Int} (h:Dl d ls):∀ sg:List Nat,sg.length=ls.length→∃ T:CT,T.Full∧(∀ p:List Bool,(p.length:Int)=d→(T.al p).map Prod.fst=sg∧(T.al p).map (fun x=>(x.2.length:Int))=ls)∧(ls.length=1→∃ s,T=.leaf s)∧(2≤ls.length→∃ a b,T=.node a b∧a.Full∧b.Full):=by
 induction h with
 | leaf d =>
   intro sg hs
   match sg,hs with
   | [s],_=>exact ⟨.leaf s,trivial,fun p hp=>by simp [CT.al,hp],fun _=>⟨s,rfl⟩,fun h=>by simp at h⟩
 | node ha hb iha ihb =>
   rename_i d a b
   intro sg hs;rw [List.length_append] at hs;obtain ⟨Ta,fa,pa,_⟩:=iha (sg.take a.length) (by rw [List.length_take];omega);obtain ⟨Tb,fb,pb,_⟩:=ihb (sg.drop a.length) (by rw [List.length_drop];omega);have hpa:=ha.pos;have hpb:=hb.pos;refine ⟨.node Ta Tb,⟨fa,fb⟩,fun p hp=>?_,fun h=>by rw [List.length_append] at h;omega,fun _=>⟨Ta,Tb,rfl,fa,fb⟩⟩;have h1:=pa (p ++ [false]) (by simp;omega);have h2:=pb (p ++ [true]) (by simp;omega);simp only [CT.al,List.map_append,h1.1,h1.2,h2.1,h2.2,List.take_append_drop,and_self]
def incR:List Bool→List Bool
 | []=>[]
 | false :: l=>true :: l
 | true :: l=>false :: incR l
theorem incR_len:∀ l:List Bool,(incR l).length=l.length
 | []=>rfl
 | false :: l=>rfl
 | true :: l=>by simp [incR,incR_len l]
theorem incR_ones:∀ (k:Nat) (l:List Bool),incR (List.replicate k true ++ false :: l)=List.replicate k false ++ true :: l
 | 0,l=>rfl
 | k+1,l=>by rw [List.replicate_succ,List.replicate_succ,List.cons_append,List.cons_append,incR,incR_ones k l]
def incW (w:List Bool):List Bool:=(incR w.reverse).reverse
def nextW (w:List Bool) (n:Nat):List Bool:=(incW w ++ List.replicate (n - w.length) false).take n
theorem incW_len (w:List Bool):(incW w).length=w.length:=by simp [incW,incR_len]
theorem next_link (p:List Bool) (k m:Nat):nextW (p ++ false :: List.replicate k true) (p.length+1+m)=p ++ true :: List.replicate m false:=by
 have e:incW (p ++ false :: List.replicate k true)=p ++ true :: List.replicate k false:=by
  unfold incW;rw [List.reverse_append,List.reverse_cons,List.reverse_replicate,List.append_assoc,List.singleton_append,incR_ones]
  simp
 unfold nextW;rw [e,List.append_assoc,List.cons_append,List.replicate_append_replicate];rw [List.take_append];simp only [List.length_append,List.length_cons,List.length_replicate]
 rw [List.take_of_length_le (by omega),show p.length+1+m - p.length=m+1 by omega,List.take_succ_cons,List.take_replicate]
 congr 3
 omega
theorem al_first:∀ {T:CT},T.Full→∀ p,∃ s k tl,T.al p=(s,p ++ List.replicate k false) :: tl
 | .leaf s,_,p=>⟨s,0,[],by simp [CT.al]⟩
 | .node a b,h,p=>by
   obtain ⟨s,k,tl,e⟩:=al_first h.1 (p ++ [false]);exact ⟨s,k+1,tl ++ b.al (p ++ [true]),by rw [CT.al,e];simp [List.replicate_succ]⟩
 | .nil,h,_=>h.elim
theorem al_last:∀ {T:CT},T.Full→∀ p,∃ s k ini,T.al p=ini ++ [(s,p ++ List.replicate k true)]
 | .leaf s,_,p=>⟨s,0,[],by simp [CT.al]⟩
 | .node a b,h,p=>by
   obtain ⟨s,k,ini,e⟩:=al_last h.2 (p ++ [true]);exact ⟨s,k+1,a.al (p ++ [false]) ++ ini,by rw [CT.al,e];simp [List.replicate_succ]⟩
 | .nil,h,_=>h.elim
theorem al_next:∀ {T:CT},T.Full→∀ (p:List Bool) (i:Nat) (x y:Nat × List Bool),(T.al p)[i]? = some x→(T.al p)[i+1]? = some y→y.2=nextW x.2 y.2.length
 | .leaf s,_,p,i,x,y,_,hy=>by simp [CT.al] at hy
 | .nil,h,_,_,_,_,_,_=>h.elim
 | .node a b,h,p,i,x,y,hx,hy=>by
   rw [CT.al] at hx hy;by_cases h1:i+1 < (a.al (p ++ [false])).length
   ·rw [List.getElem?_append_left (by omega)] at hx hy;exact al_next h.1 _ i x y hx hy
   ·by_cases h2:i+1=(a.al (p ++ [false])).length
    ·obtain ⟨s,k,ini,e⟩:=al_last h.1 (p ++ [false]);obtain ⟨t,m,tl,e'⟩:=al_first h.2 (p ++ [true]);rw [List.getElem?_append_left (by omega),e] at hx;rw [List.getElem?_append_right (by omega),h2,Nat.sub_self,e'] at hy;have hl:i=ini.length:=by rw [e] at h2;simp at h2;exact h2
     subst hl
     simp at hx hy
     rw [← hx,← hy];have:=next_link p k m;simp only [List.length_append,List.length_cons,List.length_replicate]
     rw [show p.length+(m+1)=p.length+1+m by omega];exact this.symm
    ·rw [List.getElem?_append_right (by omega)] at hx hy;rw [show i+1 - (a.al (p ++ [false])).length=i - (a.al (p ++ [false])).length+1 by omega] at hy;exact al_next h.2 _ _ x y hx hy
theorem mem_al:∀ {T:CT} {p:List Bool} {s:Nat} {w:List Bool},(s,w) ∈ T.al p ↔ ∃ l,w=p ++ l∧T.sub l=.leaf s
 | .nil,p,s,w=>by
   simp only [CT.al,List.not_mem_nil,false_iff]
   rintro ⟨l,_,h⟩;rw [CT.sub_none] at h
   cases h
 | .leaf t,p,s,w=>by
   simp only [CT.al,List.mem_singleton,Prod.mk.injEq]
   constructor
   ·rintro ⟨rfl,rfl⟩;exact ⟨[],by simp,rfl⟩
   ·rintro ⟨l,rfl,h⟩
    match l,h with
    | [],h=>injection h with h;exact ⟨h.symm,by simp⟩
    | _ :: _,h=>rw [CT.sub_leaf] at h;cases h
 | .node a b,p,s,w=>by
   simp only [CT.al,List.mem_append,mem_al (T:=a),mem_al (T:=b)]
   constructor
   ·rintro (⟨l,rfl,h⟩ | ⟨l,rfl,h⟩)
    ·exact ⟨false :: l,by simp,h⟩
    ·exact ⟨true :: l,by simp,h⟩
   ·rintro ⟨l,rfl,h⟩
    match l,h with
    | false :: l,h=>exact .inl ⟨l,by simp,h⟩
    | true :: l,h=>exact .inr ⟨l,by simp,h⟩
def CodeT (T:CT) (sg:List Nat) (ls:List Int):Prop:=
 (T.al []).map Prod.fst=sg∧(T.al []).map (fun x=>(x.2.length:Int))=ls∧sg.Pairwise (· < ·)∧(∀ s ∈ sg,s≤256)∧1≤sg.length ∧
  ((∃ a b,T=.node a b∧a.Full∧b.Full∧2≤sg.length) ∨ ∃ s,T=.node (.leaf s) .nil∧sg=[s])
theorem codeT_more {sg:List Nat} {ls:List Int} (h:Dl 0 ls) (h2:2≤ls.length) (hl:sg.length=ls.length) (hs:sg.Pairwise (· < ·)) (hb:∀ s ∈ sg,s≤256):∃ T,CodeT T sg ls:=by
 obtain ⟨T,hf,hp,_,hn⟩:=ct_of_dl h sg hl;obtain ⟨a,b,rfl,ha,hb'⟩:=hn h2;exact ⟨_,(hp [] rfl).1,(hp [] rfl).2,hs,hb,by omega,.inl ⟨a,b,rfl,ha,hb',by omega⟩⟩
theorem codeT_one (s:Nat) (hs:s≤256):CodeT (.node (.leaf s) .nil) [s] [1]:=
 ⟨rfl,rfl,by simp,by simpa using hs,by simp,.inr ⟨s,rfl,rfl⟩⟩
def CT.word (T:CT) (s:Nat):Option (List Bool):=((T.al []).find? fun x=>x.1 == s).map Prod.snd
theorem fst_unique {l:List (Nat × List Bool)} (h:(l.map Prod.fst).Pairwise (· < ·)) {s:Nat} {u v:List Bool} (h1:(s,u) ∈ l) (h2:(s,v) ∈ l):u=v:=by
 induction l with
 | nil=>simp at h1
 | cons x l ih =>
   rw [List.map_cons,List.pairwise_cons] at h;rcases List.mem_cons.1 h1 with e1 | e1 <;> rcases List.mem_cons.1 h2 with e2 | e2
   ·rw [← e1] at e2;injection e2 with _ e2;exact e2.symm
   ·have:=h.1 s (List.mem_map.2 ⟨_,e2,rfl⟩);rw [← e1] at this;simp at this
   ·have:=h.1 s (List.mem_map.2 ⟨_,e1,rfl⟩);rw [← e2] at this;simp at this
   ·exact ih h.2 e1 e2
theorem word_iff {T:CT} {sg:List Nat} {ls:List Int} (h:CodeT T sg ls) {s:Nat} {w:List Bool}:T.word s=some w ↔ (s,w) ∈ T.al []:=by
 unfold CT.word
 constructor
 ·intro e;obtain ⟨x,hx,rfl⟩:=Option.map_eq_some_iff.1 e;have h1:=List.find?_some hx;have h2:=List.mem_of_find?_eq_some hx;have h3:x.1=s:=by simpa using h1
  rw [← h3];exact h2
 ·intro e
  cases hf:(T.al []).find? fun x=>x.1 == s with
  | none=>have:=List.find?_eq_none.1 hf _ e;simp at this
  | some x =>
    have h1:=List.find?_some hf;have h2:=List.mem_of_find?_eq_some hf;have h3:x.1=s:=by simpa using h1
    obtain ⟨x1,x2⟩:=x;simp only at h3
    subst h3;rw [Option.map_some,fst_unique (by rw [h.1];exact h.2.2.1) h2 e]
theorem word_sub {T:CT} {sg:List Nat} {ls:List Int} (h:CodeT T sg ls) {s:Nat} {w:List Bool}:T.word s=some w ↔ T.sub w=.leaf s:=by
 rw [word_iff h,mem_al]
 constructor
 ·rintro ⟨l,rfl,e⟩;simpa using e
 ·intro e;exact ⟨w,by simp,e⟩
theorem word_none {T:CT} {sg:List Nat} {ls:List Int} (h:CodeT T sg ls) {s:Nat} (hs:s ∉ sg):T.word s=none:=by
 unfold CT.word;rw [List.find?_eq_none.2,Option.map_none];intro x hx hxs
 apply hs
 rw [← h.1];exact List.mem_map.2 ⟨x,hx,by simpa using hxs⟩
theorem word_at {T:CT} {sg:List Nat} {ls:List Int} (h:CodeT T sg ls) {i s:Nat} (hs:sg[i]? = some s):∃ w,T.word s=some w∧(T.al [])[i]? = some (s,w)∧ls[i]? = some (w.length:Int):=by
 rw [← h.1,List.getElem?_map] at hs;obtain ⟨x,hx,rfl⟩:=Option.map_eq_some_iff.1 hs;refine ⟨x.2,(word_iff h).2 (List.mem_of_getElem? hx),hx,?_⟩;rw [← h.2.1,List.getElem?_map,hx];rfl
theorem CodeT.node {T:CT} {sg:List Nat} {ls:List Int} (h:CodeT T sg ls):∃ a b,T=.node a b:=by
 rcases h.2.2.2.2.2 with ⟨a,b,e,_⟩ | ⟨s,e,_⟩
 ·exact ⟨a,b,e⟩
 ·exact ⟨_,_,e⟩
theorem word_ne {T:CT} {sg:List Nat} {ls:List Int} (h:CodeT T sg ls) {s:Nat} {w:List Bool} (hw:T.word s=some w):w ≠ []:=by
 rintro rfl;have:=(word_sub h).1 hw;obtain ⟨a,b,rfl⟩:=h.node;rw [CT.sub_nil] at this
 cases this
theorem word_mem {T:CT} {sg:List Nat} {ls:List Int} (h:CodeT T sg ls) {s:Nat} {w:List Bool} (hw:T.word s=some w):s ∈ sg:=by
 rw [← h.1];exact List.mem_map.2 ⟨_,(word_iff h).1 hw,rfl⟩
def CT.kid (t:CT) (b:Bool):CT:=t.sub [b]
theorem CT.kid_sub (t:CT) (b:Bool) (l:List Bool):t.sub (b :: l)=(t.kid b).sub l:=by
 rw [CT.kid,← CT.sub_app];rfl
def getC (T:CT):CT→List Nat→List Bool→List Nat × Int × Nat × Bool
 | _,_,[]=>([],4,0,true)
 | cur,out,b :: l=>match cur.kid b with
   | .nil=>([],13,1,false)
   | .leaf 0=>(out,0,1,false)
   | .leaf (s+1)=>let r:=getC T T (out ++ [s]) l;(r.1,r.2.1,r.2.2.1+1,r.2.2.2)
   | .node x y=>let r:=getC T (.node x y) out l;(r.1,r.2.1,r.2.2.1+1,r.2.2.2)
theorem getC_nil (T cur:CT) (out:List Nat):getC T cur out []=([],4,0,true):=by rw [getC]
theorem getC_none {T cur:CT} {out:List Nat} {b:Bool} {l:List Bool} (h:cur.kid b=.nil):getC T cur out (b :: l)=([],13,1,false):=by rw [getC,h]
theorem getC_end {T cur:CT} {out:List Nat} {b:Bool} {l:List Bool} (h:cur.kid b=.leaf 0):getC T cur out (b :: l)=(out,0,1,false):=by rw [getC,h]
theorem getC_leaf {T cur:CT} {out:List Nat} {b:Bool} {l:List Bool} {s:Nat} (h:cur.kid b=.leaf (s+1)):getC T cur out (b :: l)=((getC T T (out ++ [s]) l).1,(getC T T (out ++ [s]) l).2.1,(getC T T (out ++ [s]) l).2.2.1+1,(getC T T (out ++ [s]) l).2.2.2):=by rw [getC,h]
theorem getC_node {T cur x y:CT} {out:List Nat} {b:Bool} {l:List Bool} (h:cur.kid b=.node x y):getC T cur out (b :: l)=((getC T (.node x y) out l).1,(getC T (.node x y) out l).2.1,(getC T (.node x y) out l).2.2.1+1,(getC T (.node x y) out l).2.2.2):=by rw [getC,h]
theorem getC_len (T:CT):∀ (l:List Bool) (cur:CT) (out:List Nat),(getC T cur out l).2.2.1≤l.length
 | [],cur,out=>by rw [getC_nil];simp
 | b :: l,cur,out=>by
   cases h:cur.kid b with
   | nil=>rw [getC_none h];simp
   | leaf s =>
     cases s with
     | zero=>rw [getC_end h];simp
     | succ s=>rw [getC_leaf h];have:=getC_len T l T (out ++ [s]);simp;omega
   | node x y=>rw [getC_node h];have:=getC_len T l (.node x y) out;simp;omega
theorem getC_word (T:CT):∀ (w:List Bool) (cur:CT) (out:List Nat) (s:Nat) (rest:List Bool),w ≠ []→cur.sub w=.leaf s →
  getC T cur out (w ++ rest)=match s with | 0=>(out,0,w.length,false) | s+1=>((getC T T (out ++ [s]) rest).1,(getC T T (out ++ [s]) rest).2.1,(getC T T (out ++ [s]) rest).2.2.1+w.length,(getC T T (out ++ [s]) rest).2.2.2)
 | [],_,_,_,_,h,_=>(h rfl).elim
 | b :: w,cur,out,s,rest,_,h=>by
   rw [CT.kid_sub] at h;rw [List.cons_append];by_cases hw:w=[]
   ·subst hw;rw [CT.sub_nil] at h
    cases s with
    | zero=>rw [getC_end h];rfl
    | succ s=>rw [getC_leaf h];simp
   ·cases hk:cur.kid b with
    | nil=>rw [hk,CT.sub_none] at h;cases h
    | leaf t =>
      rw [hk] at h
      match w,hw,h with
      | _ :: _,_,h=>rw [CT.sub_leaf] at h;cases h
    | node x y =>
      rw [getC_node hk,getC_word T w _ out s rest hw (by rw [← hk];exact h)]
      cases s with
      | zero=>simp
      | succ s=>simp [Nat.add_assoc]
def CT.enc (T:CT):List Nat→Option (List Bool)
 | []=>some []
 | s :: l=>(T.word s).bind fun w=>(T.enc l).map (w ++ ·)
theorem enc_cons {T:CT} {s:Nat} {l:List Nat} {r:List Bool} (h:T.enc (s :: l)=some r):∃ w v,T.word s=some w∧T.enc l=some v∧r=w ++ v:=by
 rw [CT.enc] at h;obtain ⟨w,hw,h⟩:=Option.bind_eq_some_iff.1 h;obtain ⟨v,hv,h⟩:=Option.map_eq_some_iff.1 h;exact ⟨w,v,hw,hv,h.symm⟩
theorem enc_mk {T:CT} {s:Nat} {l:List Nat} {w v:List Bool} (hw:T.word s=some w) (hv:T.enc l=some v):T.enc (s :: l)=some (w ++ v):=by
 rw [CT.enc,hw,hv];rfl
theorem enc_app (T:CT):∀ (a b:List Nat),T.enc (a ++ b)=(T.enc a).bind fun u=>(T.enc b).map (u ++ ·)
 | [],b=>by rw [List.nil_append,CT.enc];simp
 | s :: a,b=>by
   rw [List.cons_append,CT.enc,CT.enc,enc_app T a b]
   cases T.word s with
   | none=>rfl
   | some w =>
     cases T.enc a with
     | none=>rfl
     | some u =>
       cases T.enc b with
       | none=>rfl
       | some v=>simp
theorem enc_some {T:CT}:∀ {l:List Nat},(∀ s ∈ l,∃ w,T.word s=some w)→∃ r,T.enc l=some r
 | [],_=>⟨[],rfl⟩
 | s :: l,h=>by
   obtain ⟨w,hw⟩:=h s (by simp);obtain ⟨v,hv⟩:=enc_some (l:=l) (fun t ht=>h t (List.mem_cons_of_mem _ ht));exact ⟨_,enc_mk hw hv⟩
theorem enc_none {T:CT}:∀ {l:List Nat} {s:Nat},s ∈ l→T.word s=none→T.enc l=none
 | t :: l,s,hs,h=>by
   rw [CT.enc];rcases List.mem_cons.1 hs with e | e
   ·rw [← e,h];rfl
   ·rw [enc_none e h]
    cases T.word t <;> rfl
def sgs (b:List Nat):List Nat:=b.map (· + 1) ++ [0]
theorem getC_enc {T:CT} {sg:List Nat} {ls:List Int} (h:CodeT T sg ls):∀ (b:List Nat) (out:List Nat) (r rest:List Bool),T.enc (sgs b)=some r→getC T T out (r ++ rest)=(out ++ b,0,r.length,false)
 | [],out,r,rest,hr=>by
   obtain ⟨w,v,hw,hv,rfl⟩:=enc_cons (show T.enc (0 :: [])=some r from hr);have hv:some []=some v:=hv;injection hv with hv
   subst hv;rw [List.append_assoc,getC_word T w T out 0 _ (word_ne h hw) ((word_sub h).1 hw)]
   simp
 | x :: b,out,r,rest,hr=>by
   obtain ⟨w,v,hw,hv,rfl⟩:=enc_cons (show T.enc ((x+1) :: sgs b)=some r from hr);rw [List.append_assoc,getC_word T w T out (x+1) _ (word_ne h hw) ((word_sub h).1 hw)];simp only
   rw [getC_enc h b _ v rest hv]
   simp [Nat.add_comm]
theorem al_len {T:CT} (h:T.Full):∀ (p:List Bool),∀ x ∈ T.al p,x.2.length+1≤p.length+(T.al p).length:=by
 induction T with
 | nil=>exact h.elim
 | leaf s=>intro p x hx;simp [CT.al] at hx;subst hx;simp [CT.al]
 | node a b iha ihb =>
   intro p x hx;have la:1≤(a.al (p ++ [false])).length:=by obtain ⟨_,_,_,e⟩:=al_first h.1 (p ++ [false]);rw [e];simp
   have lb:1≤(b.al (p ++ [true])).length:=by obtain ⟨_,_,_,e⟩:=al_first h.2 (p ++ [true]);rw [e];simp
   rw [CT.al,List.length_append];rw [CT.al] at hx;rcases List.mem_append.1 hx with hx | hx
   ·have:=iha h.1 _ x hx;rw [List.length_append] at this
    simp at this
    omega
   ·have:=ihb h.2 _ x hx;rw [List.length_append] at this
    simp at this
    omega
theorem sorted_ge:∀ {l:List Nat} {b:Nat},l.Pairwise (· < ·)→(∀ s ∈ l,b≤s)→∀ {m:Nat},(∀ s ∈ l,s≤m)→l ≠ []→b+l.length≤m+1
 | [],_,_,_,_,_,h=>(h rfl).elim
 | x :: l,b,hp,hb,m,hm,_=>by
   rw [List.pairwise_cons] at hp;by_cases hl:l=[]
   ·subst hl;have:=hb x (by simp);have:=hm x (by simp)
    simp
    omega
   ·have:=sorted_ge (b:=b+1) hp.2 (fun s hs=>by have:=hp.1 s hs;have:=hb x (by simp);omega) (m:=m) (fun s hs=>hm s (List.mem_cons_of_mem _ hs)) hl
    simp
    omega
theorem codeT_len {T:CT} {sg:List Nat} {ls:List Int} (h:CodeT T sg ls):sg.length≤257:=by
 have:=sorted_ge (b:=0) h.2.2.1 (fun _ _=>Nat.zero_le _) h.2.2.2.1 (fun e=>by have:=h.2.2.2.2.1;rw [e] at this;simp at this);omega
theorem word_len {T:CT} {sg:List Nat} {ls:List Int} (h:CodeT T sg ls) {s:Nat} {w:List Bool} (hw:T.word s=some w):w.length≤256:=by
 have hm:=(word_iff h).1 hw;have hl:=codeT_len h;have hn:(T.al []).length=sg.length:=by rw [← h.1,List.length_map]
 rcases h.2.2.2.2.2 with ⟨a,b,e,ha,hb,_⟩ | ⟨t,e,_⟩
 ·have:=al_len (T:=T) (by rw [e];exact ⟨ha,hb⟩) [] _ hm
  simp at this
  omega
 ·rw [e] at hm
  simp [CT.al] at hm
  rw [hm.2]
  simp
def txt (s:ByteArray):List Nat:=s.data.toList.map UInt8.toNat
theorem txt_len (s:ByteArray):(txt s).length=s.size:=by unfold txt;rw [List.length_map];rfl
theorem txt_get (s:ByteArray) (k:Nat) (h:k < s.size):(txt s)[k]? = some s[k].toNat:=by
 unfold txt;rw [List.getElem?_map,List.getElem?_eq_getElem (by simpa using h)];rfl
theorem txt_lt (s:ByteArray):∀ x ∈ txt s,x < 256:=by
 intro x hx;obtain ⟨y,_,rfl⟩:=List.mem_map.1 hx;exact y.toNat_lt
theorem enc_snoc {T:CT} {l:List Nat} {s:Nat} {r w:List Bool} (h:T.enc l=some r) (hw:T.word s=some w):T.enc (l ++ [s])=some (r ++ w):=by
 rw [enc_app,h,enc_mk hw (show T.enc []=some [] from rfl)]
 simp
theorem take_snoc_ {α:Type} {l:List α} {k:Nat} {x:α} (h:l[k]? = some x):l.take (k+1)=l.take k ++ [x]:=by
 rw [List.take_add_one,h];rfl
theorem enc_bound {T:CT} {sg:List Nat} {ls:List Int} (h:CodeT T sg ls):∀ {l:List Nat} {r:List Bool},T.enc l=some r→r.length≤256 * l.length
 | [],r,hr=>by
   have hr:some []=some r:=hr;injection hr with hr
   subst hr
   simp
 | s :: l,r,hr=>by
   obtain ⟨w,v,hw,hv,rfl⟩:=enc_cons hr;have h1:=word_len h hw;have h2:=enc_bound h hv;rw [List.length_append,List.length_cons];omega
end Go.Proofs.YtanacapkfllbnaaGreatDoor
namespace Go.Proofs.YtanacapkfllbnaaGreatDoor
open Go.RowKit

def wordsV (ws:List Nat):List Value:=ws.map fun x=>.int .u64 ((x:Nat):Int)
theorem wordsV_get {ws:List Nat} {i x:Nat} (h:ws[i]? = some x):(wordsV ws)[i]? = some (.int .u64 (x:Int)):=by simp [wordsV,h]

theorem u64_wrap_nat (a:Nat):IntKind.u64.wrap (a:Int)=((a % 2 ^ 64:Nat):Int):=by
 have:IntKind.u64.wrap (a:Int)=(a:Int) % 18446744073709551616:=by simp [IntKind.wrap,IntKind.signed,IntKind.bits]
 rw [this];omega
theorem wordsV_set (ws:List Nat) (q Z:Nat):(wordsV ws).set q (.int .u64 (Z:Int))=wordsV (ws.set q Z):=by unfold wordsV;rw [List.map_set]
theorem set_lt {ws:List Nat} {q Z b:Nat} (h:∀ x ∈ ws,x < b) (hZ:Z < b):∀ x ∈ ws.set q Z,x < b:=fun x hx=>by
 rcases List.mem_or_eq_of_mem_set hx with h1 | h1
 ·exact h x h1
 ·rw [h1];exact hZ
theorem u64_wrap_small {a:Nat} (h:a < 2 ^ 64):IntKind.u64.wrap (a:Int)=(a:Int):=by
 rw [u64_wrap_nat,Nat.mod_eq_of_lt h]
def textV (ss:List ByteArray) (i:Int):Value:=match (if i < 0 then none else ss[i.toNat]?) with | some s=>.tuple #[.string s,.bool true] | none=>.tuple #[.string ⟨#[]⟩,.bool false]
theorem textV_some {ss:List ByteArray} {i:Int} {s:ByteArray} (h0:0≤i) (h:ss[i.toNat]? = some s):textV ss i=.tuple #[.string s,.bool true]:=by unfold textV;rw [if_neg (by omega),h]
theorem textV_none {ss:List ByteArray} {i:Int} (h:i < 0 ∨ (ss.length:Int)≤i):textV ss i=.tuple #[.string ⟨#[]⟩,.bool false]:=by
 unfold textV;by_cases h0:i < 0
 ·rw [if_pos h0]
 ·rw [if_neg h0,List.getElem?_eq_none (by omega)]
end Go.Proofs.YtanacapkfllbnaaGreatDoor
