/-
  A REGION THAT DRAWS ITS ORDER AND HOLDS CALLS AND NEW MEMORY: one law that serves every order at once. Of each operation that makes memory or calls ('imp', by its slot) a fact is named that stays true while memory only grows; each operation is shown to run from the facts of those that must stand ahead of it; all others are pure and are walked anew where they are wanted.
  A REGION THAT DRAWS ITS ORDER, BY FACTS: of each operation's slot a fact is named that stays true while memory only grows; each operation is shown to lead from the facts of what it looks at to its own, over a frame that is a letter: nothing of the frame's other slots is seen.
  REGIONS BY FACTS: an operation whose guard was not reckoned.
  THE LAW OF XRegF OVER ANY RELATION OF WORLDS.
  CONDITIONS: as each lemma says.
-/
import Derived.Test.YtanacapkfllbnaaGreatDoorR00
import Derived.RegionTactic
import Derived.Orders
import Derived.Deep.DeepCutAuto
set_option maxRecDepth 100000
set_option maxHeartbeats 4000000
namespace Go.Proofs.YtanacapkfllbnaaGreatDoor
open Go.RowKit

section
variable (P:Program) (ops:Array Oper)

def wpSel (Q:Act→Prop):List Oper→List Bool→Act→Prop
 | o :: l,true :: m,a=>if Region.wanted o (yielded ops a.tmps) then ∃ v,(∀ w,(execOp a.eval o).run P w=.ok (.value v) w)∧wpSel Q l m (a.put o.dst v) else wpSel Q l m (a.put o.dst undef)
 | _ :: l,false :: m,a=>wpSel Q l m a
 | _,_,a=>Q a
end

section
variable {P:Program} {ops:Array Oper} {Q:Act→Prop} {l:List Oper} {m:List Bool} {o:Oper} {a:Act}
theorem wpSel_no (h:wpSel P ops Q l m a):wpSel P ops Q (o :: l) (false :: m) a:=h
theorem wpSel_yes (h:∀ K:Act→Prop,(∀ a,wpSel P ops Q l m a→K a)→if Region.wanted o (yielded ops a.tmps) then ∃ v,(∀ w,(execOp a.eval o).run P w=.ok (.value v) w)∧K (a.put o.dst v) else K (a.put o.dst undef)):wpSel P ops Q (o :: l) (true :: m) a:=
 h _ (fun _ h=>h)
theorem wpSel_nil (h:Q a):wpSel P ops Q [] [] a:=h
end

def fillL (x:Nat→Value):Nat→List Nat→List Value→List Value
 | t,d :: ds,v :: l=>if t=d then x t :: fillL x (t+1) ds l else v :: fillL x (t+1) (d :: ds) l
 | _,[],l=>l
 | _,_,[]=>[]
def fillR (x:Nat→Value) (ds:List Nat) (a:Act):Act:=⟨(a.tmps.toList.mapIdx fun t v=>if ds.contains t then x t else v).toArray,a.defers⟩

theorem fillL_eq (x:Nat→Value):∀ (l:List Value) (t:Nat) (ds:List Nat),(∀ d ∈ ds,t≤d)→ds.Pairwise (· < ·)→fillL x t ds l=l.mapIdx fun i v=>if ds.contains (t+i) then x (t+i) else v
 | [],t,[],_,_=>rfl
 | [],t,d :: ds,_,_=>rfl
 | v :: l,t,[],_,_=>by
   show v :: l=_
   apply List.ext_getElem?
   intro i;rw [List.getElem?_mapIdx]
   cases (v :: l)[i]? <;> simp
 | v :: l,t,d :: ds,h,hp=>by
   rw [List.mapIdx_cons];unfold fillL;have hd:=h d (by simp);rw [List.pairwise_cons] at hp;by_cases htd:t=d
   ·subst htd;rw [if_pos rfl,fillL_eq x l (t+1) ds (fun e he=>hp.1 e he) hp.2]
    congr 1
    ·simp
    ·apply List.ext_getElem?
     intro i;simp only [List.getElem?_mapIdx]
     congr 1
     funext u
     have h1:t+(i+1)=t+1+i:=by omega
     rw [h1]
     have h2:(t :: ds).contains (t+1+i)=ds.contains (t+1+i):=by
      rw [List.contains_cons];have:(t+1+i == t)=false:=by simp;omega
      rw [this,Bool.false_or]
     rw [h2]
   ·rw [if_neg htd,fillL_eq x l (t+1) (d :: ds) (fun e he=>by
     rcases List.mem_cons.1 he with rfl | he
     ·omega
     ·have:=hp.1 e he;omega) (List.pairwise_cons.2 hp)]
    congr 1
    ·have h2:(d :: ds).contains (t+0)=false:=by
      rw [List.contains_eq_any_beq];simp only [Nat.add_zero,List.any_eq_false,beq_iff_eq]
      intro e he heq;subst heq;rcases List.mem_cons.1 he with rfl | he
      ·exact htd rfl
      ·have:=hp.1 _ he;omega
     rw [h2]
     simp
    ·apply List.ext_getElem?
     intro i;simp only [List.getElem?_mapIdx]
     congr 1
     funext u
     have h1:t+(i+1)=t+1+i:=by omega
     rw [h1]

def dstOf (l:List Oper) (j:Nat):Option Tmp:=(l[j]?).bind (·.dst)
def ahead (l:List Oper) (info:List (List Bool × List Nat)) (i j:Nat):Bool:=
 match info[i]? with
 | some (m,ds)=>m.getD j false || (match dstOf l j with | some d=>ds.contains d | none=>false)
 | none=>false
def direct (l:List Oper) (i:Nat):List Nat:=
 match l[i]? with
 | some o=>(o.after.toList.filter (Region.binds .any ·)).map (·.on)
 | none=>[]
def isSelect (o:Oper):Bool:=match o.op with | .select ..=>true | _=>false
def relOk (l:List Oper) (n:Nat) (imp:List Nat) (info:List (List Bool × List Nat)):Bool:=
 (info.length == l.length) &&
 (List.range l.length).all fun i=>match l[i]?,info[i]? with
  | some o,some (m,ds) =>
    !isSelect o && (m.length == l.length) &&
    (match o.dst with
     | some d=>decide (d < n) && (List.range l.length).all fun j=>j == i || dstOf l j != some d
     | none=>false) &&
    (o.after.all fun e=>decide (e.on < i)) &&
    ((List.range l.length).all fun j=>match dstOf l j with
      | some dj=>(!(o.looksAt l.toArray).contains dj || (j != i && ahead l info i j)) &&
        (!(m.getD j false) || !imp.contains dj) &&
        (!(ahead l info i j) || (direct l i).contains j || (direct l i).any fun k=>ahead l info k j)
      | none=>true) &&
    (ds.all fun s=>imp.contains s)
  | _,_=>false

structure RelSpec (l:List Oper) (n:Nat) (imp:List Nat) (info:List (List Bool × List Nat)):Prop where
 infoLen:info.length=l.length
 noSel:∀ (i:Nat) (o:Oper),l[i]? = some o→∀ cs b,o.op ≠ .select cs b
 dst:∀ (i:Nat) (o:Oper),l[i]? = some o→∃ d,o.dst=some d∧d < n∧∀ (j:Nat) (oj:Oper),l[j]? = some oj→oj.dst=some d→j=i
 edge:∀ (i:Nat) (o:Oper),l[i]? = some o→∀ e ∈ o.after,e.on < i
 looks:∀ (i:Nat) (o:Oper),l[i]? = some o→∀ (j:Nat) (oj:Oper) (dj:Nat),l[j]? = some oj→oj.dst=some dj→dj ∈ o.looksAt l.toArray→j ≠ i∧ahead l info i j=true
 mask:∀ (i:Nat) (m:List Bool) (ds:List Nat),info[i]? = some (m,ds)→m.length=l.length∧(∀ (j:Nat) (oj:Oper) (dj:Nat),l[j]? = some oj→oj.dst=some dj→m.getD j false=true→dj ∉ imp)∧∀ s ∈ ds,s ∈ imp
 close:∀ (i:Nat) (o:Oper),l[i]? = some o→∀ (j:Nat) (oj:Oper),l[j]? = some oj→ahead l info i j=true→j ∈ direct l i ∨ ∃ k ∈ direct l i,ahead l info k j=true

theorem relOk_spec {l:List Oper} {n:Nat} {imp:List Nat} {info:List (List Bool × List Nat)} (h:relOk l n imp info=true):RelSpec l n imp info:=by
 unfold relOk at h;rw [Bool.and_eq_true,List.all_eq_true] at h;obtain ⟨hlen,h⟩:=h;have hlen:info.length=l.length:=by simpa using hlen
 have each:∀ (i:Nat) (o:Oper),l[i]? = some o→∃ (m:List Bool) (ds:List Nat),info[i]? = some (m,ds)∧isSelect o=false∧m.length=l.length ∧
   (∃ d,o.dst=some d∧d < n∧∀ j,j < l.length→j=i ∨ dstOf l j ≠ some d)∧(∀ e ∈ o.after,e.on < i) ∧
   (∀ j,j < l.length→∀ dj,dstOf l j=some dj→(dj ∈ o.looksAt l.toArray→j ≠ i∧ahead l info i j=true)∧(m.getD j false=true→dj ∉ imp)∧(ahead l info i j=true→j ∈ direct l i ∨ ∃ k ∈ direct l i,ahead l info k j=true)) ∧
   ∀ s ∈ ds,s ∈ imp:=by
  intro i o ho;have hi:i < l.length:=(List.getElem?_eq_some_iff.1 ho).1;have h1:=h i (List.mem_range.2 hi);rw [ho] at h1;have hinfo:info[i]? = some (info[i]'(by omega)):=List.getElem?_eq_getElem (by omega);rw [hinfo] at h1;obtain ⟨⟨m,ds⟩,hmds⟩:∃ p,info[i]'(by omega)=p:=⟨_,rfl⟩;rw [hmds] at h1 hinfo;simp only [Bool.and_eq_true] at h1
  obtain ⟨⟨⟨⟨⟨a1,a2⟩,a3⟩,a4⟩,a5⟩,a6⟩:=h1;refine ⟨m,ds,hinfo,by simpa using a1,by simpa using a2,?_,?_,?_,?_⟩
  ·cases hd:o.dst with
   | none=>rw [hd] at a3;cases a3
   | some d =>
     rw [hd] at a3;simp only [Bool.and_eq_true,decide_eq_true_eq,List.all_eq_true,List.mem_range,Bool.or_eq_true,beq_iff_eq,bne_iff_ne] at a3
     exact ⟨d,rfl,a3.1,a3.2⟩
  ·intro e he;rw [Array.all_eq_true_iff_forall_mem] at a4;simpa using a4 e he
  ·intro j hj dj hdj;rw [List.all_eq_true] at a5;have h5:=a5 j (List.mem_range.2 hj);rw [hdj] at h5;simp only [Bool.and_eq_true,Bool.or_eq_true,Bool.not_eq_true',List.any_eq_true,bne_iff_ne] at h5
   obtain ⟨⟨b1,b2⟩,b3⟩:=h5;refine ⟨fun hm=>?_,fun hm=>?_,fun ha=>?_⟩
   ·rcases b1 with b1 | b1
    ·rw [List.contains_iff_mem.2 hm] at b1;cases b1
    ·exact b1
   ·rcases b2 with b2 | b2
    ·rw [hm] at b2;cases b2
    ·intro hc;rw [List.contains_iff_mem.2 hc] at b2;cases b2
   ·rcases b3 with (b3 | b3) | b3
    ·rw [ha] at b3;cases b3
    ·exact .inl (List.contains_iff_mem.1 b3)
    ·exact .inr b3
  ·intro s hs;rw [List.all_eq_true] at a6;exact List.contains_iff_mem.1 (a6 s hs)
 refine ⟨hlen,?_,?_,?_,?_,?_,?_⟩
 ·intro i o ho cs b he;obtain ⟨m,ds,_,h1,_⟩:=each i o ho
  simp [isSelect,he] at h1
 ·intro i o ho;obtain ⟨m,ds,_,_,_,⟨d,hd,hn,hj⟩,_⟩:=each i o ho;refine ⟨d,hd,hn,fun j oj hoj hdj=>?_⟩;rcases hj j (List.getElem?_eq_some_iff.1 hoj).1 with h1 | h1
  ·exact h1
  ·exact absurd (by simp [dstOf,hoj,hdj]) h1
 ·intro i o ho;obtain ⟨m,ds,_,_,_,_,he,_⟩:=each i o ho;exact he
 ·intro i o ho j oj dj hoj hdj hm;obtain ⟨m,ds,_,_,_,_,_,h1,_⟩:=each i o ho;exact (h1 j (List.getElem?_eq_some_iff.1 hoj).1 dj (by simp [dstOf,hoj,hdj])).1 hm
 ·intro i m ds hi;have hil:i < l.length:=by rw [← hlen];exact (List.getElem?_eq_some_iff.1 hi).1
  obtain ⟨m',ds',hi',_,h2,_,_,h1,h3⟩:=each i l[i] (List.getElem?_eq_getElem hil);rw [hi] at hi';obtain ⟨rfl,rfl⟩:m=m'∧ds=ds':=by simpa using hi'
  exact ⟨h2,fun j oj dj hoj hdj hm=>(h1 j (List.getElem?_eq_some_iff.1 hoj).1 dj (by simp [dstOf,hoj,hdj])).2.1 hm,h3⟩
 ·intro i o ho j oj hoj ha;obtain ⟨m,ds,_,_,_,_,_,h1,_⟩:=each i o ho;obtain ⟨_,_,_,_,_,⟨dj,hdj,_⟩,_⟩:=each j oj hoj;exact (h1 j (List.getElem?_eq_some_iff.1 hoj).1 dj (by simp [dstOf,hoj,hdj])).2.2 ha
def depAll (Φ:Nat→Value→World→Prop) (x:Nat→Value) (w:World):List Nat→Prop
 | []=>True
 | d :: ds=>Φ d (x d) w∧depAll Φ x w ds
theorem depAll_of {Φ:Nat→Value→World→Prop} {x:Nat→Value} {w:World}:∀ {ds:List Nat},(∀ d ∈ ds,Φ d (x d) w)→depAll Φ x w ds
 | [],_=>trivial
 | d :: ds,h=>⟨h d (by simp),depAll_of fun e he=>h e (by simp [he])⟩

section
variable (P:Program) (l:List Oper) (Φ:Nat→Value→World→Prop)
def relStep (o:Oper) (d:Nat) (isImp:Bool) (w':World) (a:Act):Prop:=
 if isImp then ∀ K:Act→World→Prop,(∀ v w'',Φ d v w''→Kp [] w' w''→K (a.put o.dst v) w'')→(if Region.wanted o (yielded l.toArray a.tmps) then o.wp P a w' K (fun _ _ _=>False) else Φ d undef w')
 else (if Region.wanted o (yielded l.toArray a.tmps) then ∃ v,∀ w,(execOp a.eval o).run P w=.ok (.value v) w else True)
def relAll (imp:List Nat) (w0:World) (fr:(Nat→Value)→Act):List Oper→List (List Bool × List Nat)→Prop
 | o :: r,(m,ds) :: info =>
   (∀ (x:Nat→Value) (w':World),Kp [] w0 w'→depAll Φ x w' ds→wpSel P l.toArray (relStep P l Φ o (o.dst.getD 0) (imp.contains (o.dst.getD 0)) w') l m (fr x))∧relAll imp w0 fr r info
 | _,_=>True
end

section
variable {P:Program} {l:List Oper} {Φ:Nat→Value→World→Prop}
theorem relAll_get {imp:List Nat} {w0:World} {fr:(Nat→Value)→Act}:∀ {r:List Oper} {info:List (List Bool × List Nat)},relAll P l Φ imp w0 fr r info→∀ (i:Nat) (o:Oper) (m:List Bool) (ds:List Nat),r[i]? = some o→info[i]? = some (m,ds) →
  ∀ (x:Nat→Value) (w':World),Kp [] w0 w'→depAll Φ x w' ds→wpSel P l.toArray (relStep P l Φ o (o.dst.getD 0) (imp.contains (o.dst.getD 0)) w') l m (fr x)
 | o0 :: r,(m0,ds0) :: info,h,0,o,m,ds,ho,hi=>by
   simp only [List.getElem?_cons_zero,Option.some.injEq,Prod.mk.injEq] at ho hi
   obtain ⟨rfl,rfl⟩:=hi;subst ho;exact h.1
 | o0 :: r,(m0,ds0) :: info,h,i+1,o,m,ds,ho,hi=>relAll_get h.2 i o m ds (by simpa using ho) (by simpa using hi)
 | [],_,_,i,o,m,ds,ho,_=>by simp at ho
 | _ :: _,[],_,i,o,m,ds,_,hi=>by simp at hi

theorem put_same {a:Act} {d:Nat} (h:d < a.tmps.size):a.put (some d) (a.tmps.getD d undef)=a:=by
 obtain ⟨tmps,defers⟩:=a;simp only [Act.put,Act.mk.injEq,and_true]
 apply Array.ext_getElem?
 intro i;rw [Array.getElem?_setIfInBounds]
 split
 ·rename_i hi
  subst hi
  simp at h
  simp [h]
 ·rfl

theorem sel_same {ops:Array Oper} {Qf:Act→Prop} {a:Act}:∀ {r:List Oper} {m:List Bool},m.length=r.length →
  (∀ (j:Nat) (o:Oper),r[j]? = some o→m.getD j false=true→∃ d,o.dst=some d∧d < a.tmps.size∧Yields P ops o (a.tmps.getD d undef) a)→wpSel P ops Qf r m a→Qf a
 | [],[],_,_,h=>h
 | o :: r,false :: m,hl,hy,h=>sel_same (r:=r) (m:=m) (by simpa using hl) (fun j o' ho hm=>hy (j+1) o' (by simpa using ho) (by simpa using hm)) h
 | o :: r,true :: m,hl,hy,h=>by
   obtain ⟨d,hd,hlt,hyd⟩:=hy 0 o rfl rfl
   have rest:wpSel P ops Qf r m a:=by
    simp only [wpSel] at h
    rcases hyd with ⟨hw,hv⟩ | ⟨hw,hv⟩
    ·rw [if_pos hw] at h;obtain ⟨v,hv',h⟩:=h;have:=(hv' default).symm.trans (hv default);simp only [Result.ok.injEq,Next.value.injEq,and_true] at this
     rw [this,hd,put_same hlt] at h;exact h
    ·rw [if_neg (by rw [hw];decide),hd,← hv,put_same hlt] at h;exact h
   exact sel_same (r:=r) (m:=m) (by simpa using hl) (fun j o' ho hm=>hy (j+1) o' (by simpa using ho) (by simpa using hm)) rest
 | [],_ :: _,hl,_,_=>by simp at hl
 | _ :: _,[],hl,_,_=>by simp at hl

theorem wp_no_exit {o:Oper} {a:Act} {w:World} {K:Act→World→Prop} {Q:Exit→Act→World→Prop} (h:o.wp P a w K (fun _ _ _=>False)):o.wp P a w K Q:=by
 unfold Oper.wp at *
 generalize (execOp a.eval o).run P w=r at *
 cases r with
 | ok n w' =>
   cases n <;> simp only [Oper.upon] at *
   case value=>exact h
   case skip=>exact h
   case defer=>exact h
   case row=>exact h
   case enter f args =>
    refine Calls.mono h fun e w'' he=>?_
    cases e with
    | returned v=>exact he
    | panicked c=>exact he.elim
    | outgrown =>
      obtain ⟨_,_,h⟩:=he;exact h.elim
 | halt x w'=>cases x <;> simp only [Oper.upon] at *

structure RelInv (P:Program) (l:List Oper) (Φ:Nat→Value→World→Prop) (n:Nat) (imp:List Nat) (info:List (List Bool × List Nat)) (a0:Act) (w0:World) (fuel:Nat) (listed:Array Bool) (a:Act) (w:World):Prop where
 lsize:listed.size=l.length
 left:∃ U:List Nat,U.Nodup∧(∀ j,j ∈ U ↔ j < l.length∧listed.getD j true=false)∧U.length=fuel
 size:a.tmps.size=n
 defers:a.defers=a0.defers
 others:∀ t,(∀ o ∈ l,o.dst ≠ some t)→a.tmps[t]? = a0.tmps[t]?
 kp:Kp [] w0 w
 done:∀ (j:Nat) (o:Oper) (d:Nat),l[j]? = some o→o.dst=some d→listed.getD j false=true→if imp.contains d then Φ d (a.tmps.getD d undef) w else Yields P l.toArray o (a.tmps.getD d undef) a
 closed:∀ k j,j < l.length→listed.getD k false=true→ahead l info k j=true→listed.getD j false=true
theorem fr_self {a a0:Act} {n:Nat} {ds:List Nat} (hs:a.tmps.size=n) (h0:a0.tmps.size=n) (hd:a.defers=a0.defers) (ho:∀ t,t ∉ ds→a.tmps[t]? = a0.tmps[t]?) :
  fillR (fun t=>a.tmps.getD t undef) ds a0=a:=by
 obtain ⟨tmps,defers⟩:=a;simp only at hs hd ho
 subst hd;simp only [fillR,Act.mk.injEq,and_true]
 apply Array.ext_getElem?
 intro i;simp only [List.getElem?_toArray,List.getElem?_mapIdx,Array.getElem?_toList]
 by_cases hi:i < n
 ·rw [Array.getElem?_eq_getElem (by omega),Option.map_some];by_cases hc:ds.contains i=true
  ·rw [if_pos hc,Array.getElem?_eq_getElem (by omega)]
   simp [Array.getElem?_eq_getElem (show i < tmps.size by omega)]
  ·rw [if_neg hc,ho i (fun hm=>hc (List.contains_iff_mem.2 hm)),Array.getElem?_eq_getElem (by omega)]
 ·rw [Array.getElem?_eq_none (by omega),Array.getElem?_eq_none (by omega)];rfl

theorem rel_sound {n:Nat} {imp ds:List Nat} {info:List (List Bool × List Nat)} {a0:Act} {w0:World} {fr:(Nat→Value)→Act} {Q:Exit→Act→World→Prop} {fm:List Bool}
  (sp:RelSpec l n imp info) (h0:a0.tmps.size=n) (hds:∀ t,t ∉ ds→∀ o ∈ l,o.dst ≠ some t) (himp:∀ s ∈ imp,∃ (j:Nat) (o:Oper),l[j]? = some o∧o.dst=some s) (hfr:∀ x,fillR x ds a0=fr x)
  (stable:∀ d v w1 w2,Φ d v w1→Kp [] w1 w2→Φ d v w2) (steps:relAll P l Φ imp w0 fr l info)
  (hfm:fm.length=l.length∧∀ (j:Nat) (o:Oper) (d:Nat),l[j]? = some o→o.dst=some d→fm.getD j false=true→d ∉ imp)
  (fin:∀ (x:Nat→Value) (w':World),Kp [] w0 w'→depAll Φ x w' imp→wpSel P l.toArray (fun a=>Q .normal a w') l fm (fr x)) :
  ∀ (fuel:Nat) (listed:Array Bool) (a:Act) (w:World),RelInv P l Φ n imp info a0 w0 fuel listed a w→wpAny P .any l.toArray Q fuel listed a w:=by
 have other:∀ {a:Act},(∀ t,(∀ o ∈ l,o.dst ≠ some t)→a.tmps[t]? = a0.tmps[t]?)→∀ t,t ∉ ds→a.tmps[t]? = a0.tmps[t]? := fun h t ht=>h t (hds t ht)
 have finish:∀ {fuel:Nat} {listed:Array Bool} {a:Act} {w:World},RelInv P l Φ n imp info a0 w0 fuel listed a w→Region.ready .any l.toArray listed=[]→Q .normal a w:=by
  intro fuel listed a w I hr
  have alll:∀ j,j < l.length→listed.getD j false=true:=by
   intro j
   induction j using Nat.strongRecOn with
   | _ j ih =>
     intro hj;by_cases hlj:listed.getD j false=true
     ·exact hlj
     ·exfalso
      have hmem:j ∈ Region.ready .any l.toArray listed:=by
       rw [mem_ready];refine ⟨?_,l[j],by simp [List.getElem?_eq_getElem hj],fun e he _=>?_⟩
       ·have:j < listed.size:=by rw [I.lsize];exact hj
        simp [Array.getElem?_eq_getElem this] at hlj ⊢
        exact hlj
       ·have:=sp.edge j l[j] (List.getElem?_eq_getElem hj) e he;exact ih e.on this (by omega)
      rw [hr] at hmem
      cases hmem
  have key:=fin (fun t=>a.tmps.getD t undef) w I.kp (depAll_of fun s hs=>by
   obtain ⟨j,o,hj,hd⟩:=himp s hs;have:=I.done j o s hj hd (alll j (List.getElem?_eq_some_iff.1 hj).1);rw [if_pos (List.contains_iff_mem.2 hs)] at this
   exact this)
  rw [← hfr,fr_self I.size h0 I.defers (other I.others)] at key;refine sel_same hfm.1 (fun j o hj hm=>?_) key;obtain ⟨d,hd,hlt,_⟩:=sp.dst j o hj;refine ⟨d,hd,by rw [I.size];exact hlt,?_⟩;have:=I.done j o d hj hd (alll j (List.getElem?_eq_some_iff.1 hj).1)
  rwa [if_neg (fun hc=>hfm.2 j o d hj hd hm (List.contains_iff_mem.1 hc))] at this
 intro fuel
 induction fuel with
 | zero =>
   intro listed a w I
   have hr:Region.ready .any l.toArray listed=[]:=by
    obtain ⟨U,_,hU,hlen⟩:=I.left
    apply List.eq_nil_iff_forall_not_mem.2
    intro j hj;obtain ⟨h1,o,ho,_⟩:=mem_ready.1 hj;have:j ∈ U:=(hU j).2 ⟨by have:=(Array.getElem?_eq_some_iff.1 ho).1;simpa using this,h1⟩;rw [List.eq_nil_of_length_eq_zero hlen] at this
    cases this
   exact ⟨hr,finish I hr⟩
 | succ fuel ih =>
   intro listed a w I;refine ⟨fun hr=>finish I hr,fun i hi=>?_⟩;obtain ⟨hun,o,ho,hdeps⟩:=mem_ready.1 hi;have ho':l[i]? = some o:=by simpa using ho
   have hil:i < l.length:=(List.getElem?_eq_some_iff.1 ho').1
   have hunf:listed.getD i false=false:=by
    have:i < listed.size:=by rw [I.lsize];exact hil
    simp [Array.getElem?_eq_getElem this] at hun ⊢
    exact hun
   obtain ⟨d,hd,hdn,huniq⟩:=sp.dst i o ho'
   have hdir:∀ k ∈ direct l i,listed.getD k false=true:=by
    intro k hk;simp only [direct,ho',List.mem_map,List.mem_filter] at hk
    obtain ⟨e,⟨he,hb⟩,rfl⟩:=hk;exact hdeps e (by simpa using he) hb
   have hah:∀ j,j < l.length→ahead l info i j=true→listed.getD j false=true:=by
    intro j hj ha;rcases sp.close i o ho' j l[j] (List.getElem?_eq_getElem hj) ha with h1 | ⟨k,hk,h1⟩
    ·exact hdir j h1
    ·exact I.closed k j hj (hdir k hk) h1
   obtain ⟨m,es,hinfo⟩:∃ m es,info[i]? = some (m,es):=by
    have:i < info.length:=by rw [sp.infoLen];exact hil
    exact ⟨_,_,List.getElem?_eq_getElem this⟩
   obtain ⟨hml,hmask,hes⟩:=sp.mask i m es hinfo
   have step:=relAll_get steps i o m es ho' hinfo (fun t=>a.tmps.getD t undef) w I.kp (depAll_of fun s hs=>by
    obtain ⟨j,oj,hj,hdj⟩:=himp s (hes s hs);have hjl:=(List.getElem?_eq_some_iff.1 hj).1;have ha:ahead l info i j=true:=by simp [ahead,hinfo,dstOf,hj,hdj,hs]
    have:=I.done j oj s hj hdj (hah j hjl ha);rw [if_pos (List.contains_iff_mem.2 (hes s hs))] at this
    exact this)
   rw [← hfr,fr_self I.size h0 I.defers (other I.others)] at step
   have step:=sel_same hml (fun j oj hj hm=>by
    obtain ⟨dj,hdj,hlt,_⟩:=sp.dst j oj hj;refine ⟨dj,hdj,by rw [I.size];exact hlt,?_⟩;have hjl:=(List.getElem?_eq_some_iff.1 hj).1;have ha:ahead l info i j=true:=by simp only [ahead,hinfo];rw [hm];rfl
    have:=I.done j oj dj hj hdj (hah j hjl ha)
    rwa [if_neg (fun hc=>hmask j oj dj hj hdj hm (List.contains_iff_mem.1 hc))] at this) step
   have hself:d ∉ o.looksAt l.toArray:=fun hm=>(sp.looks i o ho' i o d ho' hd hm).1 rfl

   have next:∀ v w'',(if imp.contains d then Φ d v w'' else Yields P l.toArray o v a)→Kp [] w w''→RelInv P l Φ n imp info a0 w0 fuel (listed.setIfInBounds i true) (a.put o.dst v) w'':=by
    intro v w'' hv hk;rw [hd]
    have hslot:((a.put (some d) v).tmps.getD d undef)=v:=by
     have:d < a.tmps.size:=by rw [I.size];exact hdn
     simp [Act.put,this]
    have hslot':∀ t,t ≠ d→(a.put (some d) v).tmps[t]? = a.tmps[t]? := fun t ht=>by
     simp [Act.put,Array.getElem?_setIfInBounds_ne (Ne.symm ht)]
    have hset:∀ j,j ≠ i→∀ b,(listed.setIfInBounds i true).getD j b=listed.getD j b:=fun j hj b=>getD_set_ne b (Ne.symm hj)
    have hseti:(listed.setIfInBounds i true).getD i false=true:=by
     have:i < listed.size:=by rw [I.lsize];exact hil
     simp [this]
    refine ⟨by simpa using I.lsize,?_,by simpa [Act.put] using I.size,I.defers,fun t ht=>?_,I.kp.trans hk,?_,?_⟩
    ·obtain ⟨U,hnd,hU,hlen⟩:=I.left;have hiU:i ∈ U:=(hU i).2 ⟨hil,hun⟩;refine ⟨U.erase i,hnd.erase i,fun j=>?_,by rw [List.length_erase_of_mem hiU];omega⟩;rw [hnd.mem_erase_iff,hU];by_cases hji:j=i
     ·subst hji;have:j < listed.size:=by rw [I.lsize];exact hil
      simp [this]
     ·rw [hset j hji]
      simp [hji]
    ·rw [hslot' t (fun e=>ht o (List.mem_of_getElem? ho') (by rw [hd,e]))];exact I.others t ht
    ·intro j oj dj hj hdj hlj;by_cases hji:j=i
     ·subst hji;rw [ho'] at hj;injection hj with hj
      subst hj;rw [hd] at hdj;injection hdj with hdj
      subst hdj;rw [hslot];by_cases hc:imp.contains d=true
      ·rw [if_pos hc] at hv ⊢;exact hv
      ·rw [if_neg hc] at hv ⊢;exact hv.of_same (execOp_put o (sp.noSel _ _ ho') a (some d) v (by intro e he;injection he with he;subst he;exact hself)) (wanted_put o a (some d) v (by intro e he;injection he with he;subst he;exact hself))
     ·rw [hset j hji] at hlj;have hdd:dj ≠ d:=fun e=>hji (huniq j oj hj (by rw [hdj,e]))
      have hdone:=I.done j oj dj hj hdj hlj
      have hsl:(a.put (some d) v).tmps.getD dj undef=a.tmps.getD dj undef:=by
       simp only [Array.getD_eq_getD_getElem?,hslot' dj hdd]
      rw [hsl];by_cases hc:imp.contains dj=true
      ·rw [if_pos hc] at hdone ⊢;exact stable _ _ _ _ hdone hk
      ·rw [if_neg hc] at hdone ⊢
       have hnl:d ∉ oj.looksAt l.toArray:=fun hm=>by
        have h1:=(sp.looks j oj hj i o d ho' hd hm).2;have:=I.closed j i hil hlj h1;rw [hunf] at this
        cases this
       exact hdone.of_same (execOp_put oj (sp.noSel _ _ hj) a (some d) v (by intro e he;injection he with he;subst he;exact hnl)) (wanted_put oj a (some d) v (by intro e he;injection he with he;subst he;exact hnl))
    ·intro k j hj hlk hak
     have hjl:listed.getD j false=true:=by
      by_cases hki:k=i
      ·subst hki;exact hah j hj hak
      ·rw [hset k hki] at hlk;exact I.closed k j hj hlk hak
     by_cases hji:j=i
     ·subst hji;exact hseti
     ·rw [hset j hji];exact hjl
   unfold wpOp;simp only [ho]
   unfold relStep at step;rw [hd] at step;simp only [Option.getD_some] at step
   by_cases hc:imp.contains d=true
   ·rw [if_pos hc] at step;have st:=step (wpAny P .any l.toArray Q fuel (listed.setIfInBounds i true)) (fun v w'' hv hk=>by rw [← hd];exact ih _ _ _ (next v w'' (by rw [if_pos hc];exact hv) hk));by_cases hw:Region.wanted o (yielded l.toArray a.tmps)=true
    ·rw [if_pos hw] at st;rw [if_pos hw];exact .inl (wp_no_exit st)
    ·rw [if_neg hw] at st;rw [if_neg hw];exact ih _ _ _ (next undef w (by rw [if_pos hc];exact st) (Kp.refl _ _))
   ·rw [if_neg hc] at step;by_cases hw:Region.wanted o (yielded l.toArray a.tmps)=true
    ·rw [if_pos hw] at step;obtain ⟨v,hv⟩:=step;have hy:Yields P l.toArray o v a:=.inl ⟨hw,hv⟩;have hres:=ih _ _ _ (next v w (by rw [if_neg hc];exact hy) (Kp.refl _ _));have:=Yields.wpOp (Q:=Q) ho hy (K:=wpAny P .any l.toArray Q fuel (listed.setIfInBounds i true)) hres;unfold wpOp at this;simp only [ho] at this
     exact this
    ·rw [if_neg hw];exact ih _ _ _ (next undef w (by rw [if_neg hc];exact .inr ⟨by simpa using hw,rfl⟩) (Kp.refl _ _))

theorem wp_region_rel {id:Nat} {a0:Act} {w0:World} {Q:Exit→Act→World→Prop} (hm:P.follows .mixedOrders=true) (n:Nat) (imp sds:List Nat) (info:List (List Bool × List Nat)) (fm:List Bool)
  (hok:relOk l n imp info=true) (hok2:((l.all fun o=>match o.dst with | some d=>sds.contains d | none=>true) && (imp.all fun s=>l.any fun o=>o.dst == some s) && decide (sds.Pairwise (· < ·)) && (fm.length == l.length) && (List.range l.length).all fun j=>!(fm.getD j false) || (match dstOf l j with | some d=>!imp.contains d | none=>true))=true)
  (h0:a0.tmps.size=n) (Φ:Nat→Value→World→Prop) (stable:∀ d v w1 w2,Φ d v w1→Kp [] w1 w2→Φ d v w2)
  (fr:(Nat→Value)→List Value) (hfr:∀ x,fillL x 0 sds a0.tmps.toList=fr x)
  (steps:relAll P l Φ imp w0 (fun x=>⟨(fr x).toArray,a0.defers⟩) l info)
  (fin:∀ (x:Nat→Value) (w':World),Kp [] w0 w'→depAll Φ x w' imp→wpSel P l.toArray (fun a=>Q .normal a w') l fm ⟨(fr x).toArray,a0.defers⟩) :
  (Code.region id l.toArray true).wp P Q a0 w0:=by
 simp only [Bool.and_eq_true,List.all_eq_true,List.any_eq_true,decide_eq_true_eq,beq_iff_eq,List.mem_range,Bool.or_eq_true,Bool.not_eq_true'] at hok2
 obtain ⟨⟨⟨⟨c1,c2⟩,c3⟩,c4⟩,c5⟩:=hok2;refine wp_region_any hm (rel_sound (relOk_spec hok) h0 (ds:=sds) (fr:=fun x=>⟨(fr x).toArray,a0.defers⟩) (fm:=fm) ?_ ?_ ?_ stable steps ?_ fin _ _ _ _ ?_)
 ·intro t ht o ho he;have:=c1 o ho;rw [he] at this;exact ht (List.contains_iff_mem.1 this)
 ·intro s hs;obtain ⟨o,ho,he⟩:=c2 s hs;obtain ⟨j,hj⟩:=List.getElem?_of_mem ho;exact ⟨j,o,hj,he⟩
 ·intro x;simp only [fillR,Act.mk.injEq,and_true]
  rw [← hfr,fillL_eq x _ 0 sds (fun _ _=>Nat.zero_le _) c3]
  simp
 ·refine ⟨c4,fun j o d hj hd hm hc=>?_⟩;have:=c5 j (List.getElem?_eq_some_iff.1 hj).1;rw [hm] at this;simp only [dstOf,hj,Option.bind_some,hd] at this
  rcases this with h | h
  ·cases h
  ·rw [List.contains_iff_mem.2 hc] at h;cases h
 ·have hfalse:∀ j b,j < l.length→(Array.replicate l.toArray.size false).getD j b=false:=fun j b hj=>by simp [hj]
  refine ⟨by simp,⟨List.range l.length,List.nodup_range,fun j=>?_,by simp⟩,h0,rfl,fun _ _=>rfl,(Kp.refl [] w0).drew,?_,?_⟩
  ·rw [List.mem_range];exact ⟨fun h=>⟨h,hfalse j true h⟩,fun h=>h.1⟩
  ·intro j o d hj _ hl;rw [hfalse j false (List.getElem?_eq_some_iff.1 hj).1] at hl
   cases hl
  ·intro k j _ hl;by_cases hk:k < l.length
   ·rw [hfalse k false hk] at hl;cases hl
   ·simp [hk] at hl
end

section
variable {P:Program} {l:List Oper} {Φ:Nat→Value→World→Prop}
theorem relAll_cons {imp:List Nat} {w0:World} {fr:(Nat→Value)→Act} {o:Oper} {r:List Oper} {m:List Bool} {ds:List Nat} {info:List (List Bool × List Nat)}
  (h:∀ (x:Nat→Value) (w':World),Kp [] w0 w'→depAll Φ x w' ds→wpSel P l.toArray (relStep P l Φ o (o.dst.getD 0) (imp.contains (o.dst.getD 0)) w') l m (fr x)) (hr:relAll P l Φ imp w0 fr r info):relAll P l Φ imp w0 fr (o :: r) ((m,ds) :: info):=⟨h,hr⟩
theorem relAll_nil {imp:List Nat} {w0:World} {fr:(Nat→Value)→Act}:relAll P l Φ imp w0 fr [] []:=trivial
theorem relStep_pure {o:Oper} {d:Nat} {b:Bool} {w':World} {a:Act} (hb:b=false) (h:if Region.wanted o (yielded l.toArray a.tmps) then ∃ v,∀ w,(execOp a.eval o).run P w=.ok (.value v) w else True):relStep P l Φ o d b w' a:=by
 subst hb;exact h
theorem relStep_imp {o:Oper} {d:Nat} {b:Bool} {w':World} {a:Act} (hb:b=true) (h:∀ K:Act→World→Prop,(∀ v w'',Φ d v w''→Kp [] w' w''→K (a.put o.dst v) w'')→(if Region.wanted o (yielded l.toArray a.tmps) then o.wp P a w' K (fun _ _ _=>False) else Φ d undef w')):relStep P l Φ o d b w' a:=by
 subst hb;exact h
end
structure SFact where
 p:Value→World→Prop
 st:∀ v w1 w2,p v w1→Kp [] w1 w2→p v w2
def factOf:List (Nat × SFact)→Nat→Value→World→Prop
 | [],_=>fun _ _=>True
 | (k,f) :: r,d=>if d=k then f.p else factOf r d
theorem factOf_stable:∀ (fs:List (Nat × SFact)) (d:Nat) (v:Value) (w1 w2:World),factOf fs d v w1→Kp [] w1 w2→factOf fs d v w2
 | [],_,_,_,_,_,_=>trivial
 | (k,f) :: r,d,v,w1,w2,h,hk=>by
   unfold factOf at *;by_cases hd:d=k
   ·rw [if_pos hd] at *;exact f.st v w1 w2 h hk
   ·rw [if_neg hd] at *;exact factOf_stable r d v w1 w2 h hk
theorem Rd.here {w:World} {B:Nat} {A:Option Addr} {xs:List Value} (h:Rd w B A xs):Rd w w.heap.size A xs:=fun i u hu=>by
 obtain ⟨ad,e,_,hc⟩:=h i u hu;exact ⟨ad,e,by have:=World.block_lt_of_cell? w _ hc;rwa [addr_add_block] at this,hc⟩
theorem RdRows.here {w:World} {B:Nat} {k:IntKind} {A:Option Addr} {xss:List (List Int)} (h:RdRows w B k A xss):RdRows w w.heap.size k A xss:=by
 obtain ⟨l,hl,hr,h⟩:=h;refine ⟨l,hl,hr.here,fun i xs hi=>?_⟩;obtain ⟨Ai,ci,h1,h2,h3⟩:=h i xs hi;exact ⟨Ai,ci,h1,h2,h3.here⟩
def SFact.eq (u:Value):SFact:=⟨fun v _=>v=u,fun _ _ _ h _=>h⟩
def IsRd (k:IntKind) (xs:List Int) (v:Value) (w:World):Prop:=∃ A c,v=.slice A xs.length c∧xs.length≤c∧Rd w w.heap.size A (xs.map (.int k))
def IsRows (k:IntKind) (xss:List (List Int)) (v:Value) (w:World):Prop:=∃ A c,v=.slice A xss.length c∧xss.length≤c∧RdRows w w.heap.size k A xss
theorem IsRd.kp0 {k:IntKind} {xs:List Int} {v:Value} {w w':World} (h:IsRd k xs v w) (hk:Kp [] w w'):IsRd k xs v w':=by
 obtain ⟨A,c,h1,h2,h3⟩:=h;exact ⟨A,c,h1,h2,(h3.kp0 hk).here⟩
theorem IsRows.kp0 {k:IntKind} {xss:List (List Int)} {v:Value} {w w':World} (h:IsRows k xss v w) (hk:Kp [] w w'):IsRows k xss v w':=by
 obtain ⟨A,c,h1,h2,h3⟩:=h;exact ⟨A,c,h1,h2,(h3.kp0 hk).here⟩
def SFact.rd (k:IntKind) (xs:List Int):SFact:=⟨IsRd k xs,fun _ _ _ h hk=>h.kp0 hk⟩
def SFact.rows (k:IntKind) (xss:List (List Int)):SFact:=⟨IsRows k xss,fun _ _ _ h hk=>h.kp0 hk⟩
theorem IsRd.new (w:World) (k:IntKind) (xs:List Int) (t:TypeId) (n:Nat) (hn:xs.length=n):IsRd k xs (.slice (some ⟨w.heap.size,0,none⟩) n n) (w.alloc (.cells (xs.map (.int k)).toArray t)):=by
 subst hn;exact ⟨_,_,rfl,Nat.le_refl _,by simpa using (Blk.new w t (xs.map (.int k))).rd (Nat.lt_succ_self _)⟩
theorem IsRows.new {w:World} {k:IntKind} {l:List Value} {xss:List (List Int)} {t:TypeId} {n:Nat} (hn:xss.length=n) (h:RowsL w w.heap.size k l xss):IsRows k xss (.slice (some ⟨w.heap.size,0,none⟩) n n) (w.alloc (.cells l.toArray t)):=by
 subst hn;refine ⟨_,_,rfl,Nat.le_refl _,?_⟩;have hk:Kp [] w (w.alloc (.cells l.toArray t)):=(Kp.refl [] w).alloc _;refine (RdRows.of_list (l:=l) (B:=w.heap.size+1) ?_ ((Blk.new w t l).rd (Nat.lt_succ_self _))).here;have:∀ {l:List Value} {xss:List (List Int)},RowsL w w.heap.size k l xss→RowsL (w.alloc (.cells l.toArray t)) (w.heap.size+1) k l xss→True:=fun _ _=>trivial
 clear this
 have mono:∀ (w':World),Kp [] w w'→∀ {l:List Value} {xss:List (List Int)},RowsL w w.heap.size k l xss→RowsL w' (w.heap.size+1) k l xss:=fun w' hk l=>by
  induction l with
  | nil=>intro xss h;cases xss <;> exact h
  | cons v l ih =>
    intro xss h
    cases xss with
    | nil=>exact h
    | cons xs xss =>
      obtain ⟨⟨A,c,h1,h2,h3⟩,h4⟩:=h;exact ⟨⟨A,c,h1,h2,(h3.kp0 hk).bound (Nat.le_succ _)⟩,ih h4⟩
 exact mono _ hk h
theorem RowsL.cons {w:World} {k:IntKind} {v:Value} {xs:List Int} {l:List Value} {xss:List (List Int)} (h:IsRd k xs v w) (hl:RowsL w w.heap.size k l xss):RowsL w w.heap.size k (v :: l) (xs :: xss):=⟨h,hl⟩
theorem IsRd.nil (k:IntKind) (w:World):IsRd k [] (.slice none 0 0) w:=⟨none,0,rfl,Nat.le_refl _,Rd.nil _ _ _⟩
theorem run_make_list {P:Program} (t e:TypeId) (i:TypeInfo) (z:Value) (h1:P.underlying t=some (.slice e)) (h2:P.info? e=some i) (h3:i.zero=some z) (h4:i.size=1) (hz:z.cells=#[z])
  (kl kc:IntKind) (n:Nat) (b2:i.bytes * n≤281474976710656) (b3:n≤9223372036854775807) (w:World) :
  (Instr.makeSlice t (.int kl (n:Int)) (.int kc (n:Int))).run P w=.ok (.slice (some ⟨w.heap.size,0,none⟩) n n) (w.alloc (.cells (List.replicate n z).toArray e)):=by
 have hb:(i.bytes:Int) * (n:Int)≤281474976710656:=by
  have h:((i.bytes * n:Nat):Int)≤281474976710656:=by omega
  rwa [Int.natCast_mul] at h
 have hr:=run_make (P:=P) w t e i z h1 h2 h3 kl kc n n (by omega) (by omega) hb (by omega);simp only [Int.toNat_natCast] at hr
 rw [hr,hz,h4,Nat.mul_one]
 congr 3
 rw [← toList_madeCells_one]
end Go.Proofs.YtanacapkfllbnaaGreatDoor
namespace Go.Proofs.YtanacapkfllbnaaGreatDoor
open Go.RowKit

section
variable (P:Program) (l:List Oper) (Φ:Nat→Value→World→Prop)
def stepF (o:Oper) (d:Nat) (w':World) (a:Act):Prop:=
 ∀ K:Act→World→Prop,(∀ v w'',Φ d v w''→Kp [] w' w''→K (a.put o.dst v) w'')→(if Region.wanted o (yielded l.toArray a.tmps) then o.wp P a w' K (fun _ _ _=>False) else Φ d undef w')
structure Ev (x:Nat→Value) (sds:List Nat) (a0 a:Act):Prop where
 new:∀ t:Nat,sds.contains t=true→a.tmps[t]?.getD undef=x t
 old:∀ t:Nat,sds.contains t=false→a.tmps[t]?.getD undef=a0.tmps[t]?.getD undef
def factAll (sds:List Nat) (a0:Act) (w0:World):List Oper→List (List Nat)→Prop
 | o :: r,ds :: dss =>
   (∀ (x:Nat→Value) (w':World) (a:Act),Kp [] w0 w'→depAll Φ x w' ds→Ev x sds a0 a→stepF P l Φ o (o.dst.getD 0) w' a)∧factAll sds a0 w0 r dss
 | _,_=>True
end

section
variable {P:Program} {l:List Oper} {Φ:Nat→Value→World→Prop}
theorem ev_fillR {a0:Act} {n:Nat} {sds:List Nat} (x:Nat→Value) (h0:a0.tmps.size=n) (hs:∀ s ∈ sds,s < n):Ev x sds a0 (fillR x sds a0):=by
 refine ⟨fun t ht=>?_,fun t ht=>?_⟩
 ·have hm:=List.contains_iff_mem.1 ht;have hn:t < n:=hs t hm;simp only [fillR]
  rw [List.getElem?_toArray,List.getElem?_mapIdx,Array.getElem?_toList,Array.getElem?_eq_getElem (by omega)]
  simp [hm]
 ·have hm:t ∉ sds:=fun h=>by rw [List.contains_iff_mem.2 h] at ht;cases ht
  simp only [fillR]
  rw [List.getElem?_toArray,List.getElem?_mapIdx,Array.getElem?_toList]
  cases a0.tmps[t]? <;> simp [hm]
theorem wpSel_none {ops:Array Oper} {Qf:Act→Prop} {a:Act}:∀ (r:List Oper),Qf a→wpSel P ops Qf r (List.replicate r.length false) a
 | [],h=>h
 | _ :: r,h=>wpSel_none r h
theorem factAll_rel {n:Nat} {sds imp:List Nat} {a0:Act} {w0:World} (h0:a0.tmps.size=n) (hs:∀ s ∈ sds,s < n):∀ {r:List Oper} {dss:List (List Nat)},(∀ o ∈ r,imp.contains (o.dst.getD 0)=true)→factAll P l Φ sds a0 w0 r dss →
  relAll P l Φ imp w0 (fun x=>fillR x sds a0) r (dss.map fun ds=>(List.replicate l.length false,ds))
 | [],[],_,_=>trivial
 | [],_ :: _,_,_=>trivial
 | _ :: _,[],_,_=>trivial
 | o :: r,ds :: dss,hi,h=>by
   refine ⟨fun x w' hk hd=>wpSel_none l ?_,factAll_rel h0 hs (fun o' ho'=>hi o' (by simp [ho'])) h.2⟩;unfold relStep;rw [if_pos (hi o (by simp))];exact h.1 x w' _ hk hd (ev_fillR x h0 hs)
theorem wp_region_facts {id:Nat} {a0:Act} {w0:World} {Q:Exit→Act→World→Prop} (hm:P.follows .mixedOrders=true) (n:Nat) (sds:List Nat) (dss:List (List Nat))
  (hok:relOk l n sds (dss.map fun ds=>(List.replicate l.length false,ds))=true) (hok2:((l.all fun o=>sds.contains (o.dst.getD 0)) && (sds.all fun s=>l.any fun o=>o.dst == some s) && decide (sds.Pairwise (· < ·)) && (sds.all fun s=>decide (s < n)))=true)
  (h0:a0.tmps.size=n) (Φ:Nat→Value→World→Prop) (stable:∀ d v w1 w2,Φ d v w1→Kp [] w1 w2→Φ d v w2)
  (fr:(Nat→Value)→List Value) (hfr:∀ x,fillL x 0 sds a0.tmps.toList=fr x)
  (steps:factAll P l Φ sds a0 w0 l dss)
  (fin:∀ (x:Nat→Value) (w':World),Kp [] w0 w'→depAll Φ x w' sds→Q .normal ⟨(fr x).toArray,a0.defers⟩ w') :
  (Code.region id l.toArray true).wp P Q a0 w0:=by
 simp only [Bool.and_eq_true,List.all_eq_true,List.any_eq_true,decide_eq_true_eq,beq_iff_eq] at hok2
 obtain ⟨⟨⟨c1,c2⟩,c3⟩,c4⟩:=hok2;have sp:=relOk_spec hok
 have hfr':∀ x,fillR x sds a0=⟨(fr x).toArray,a0.defers⟩:=fun x=>by
  simp only [fillR,Act.mk.injEq,and_true]
  rw [← hfr,fillL_eq x _ 0 sds (fun _ _=>Nat.zero_le _) c3]
  simp
 refine wp_region_any hm (rel_sound sp h0 (ds:=sds) (imp:=sds) (fr:=fun x=>fillR x sds a0) (fm:=List.replicate l.length false) ?_ ?_ (fun _=>rfl) stable (factAll_rel h0 (fun s hs=>c4 s hs) c1 steps) ?_ (fun x w' hk hd=>wpSel_none l (by rw [hfr'];exact fin x w' hk hd)) _ _ _ _ ?_)
 ·intro t ht o ho he;have:=c1 o ho;rw [he] at this;exact ht (List.contains_iff_mem.1 this)
 ·intro s hs;obtain ⟨o,ho,he⟩:=c2 s hs;obtain ⟨j,hj⟩:=List.getElem?_of_mem ho;exact ⟨j,o,hj,he⟩
 ·refine ⟨by simp,fun j o d hj hd hm=>?_⟩;rw [List.getD_eq_getElem?_getD,List.getElem?_replicate] at hm
  split at hm <;> cases hm
 ·have hfalse:∀ j b,j < l.length→(Array.replicate l.toArray.size false).getD j b=false:=fun j b hj=>by simp [hj]
  refine ⟨by simp,⟨List.range l.length,List.nodup_range,fun j=>?_,by simp⟩,h0,rfl,fun _ _=>rfl,(Kp.refl [] w0).drew,?_,?_⟩
  ·rw [List.mem_range];exact ⟨fun h=>⟨h,hfalse j true h⟩,fun h=>h.1⟩
  ·intro j o d hj _ hl;rw [hfalse j false (List.getElem?_eq_some_iff.1 hj).1] at hl
   cases hl
  ·intro k j _ hl;by_cases hk:k < l.length
   ·rw [hfalse k false hk] at hl;cases hl
   ·simp [hk] at hl
theorem stepF_un {o:Oper} {d:Nat} {w':World} {a:Act} (hg:o.guard=none) (h:∀ K:Act→World→Prop,(∀ v w'',Φ d v w''→Kp [] w' w''→K (a.put o.dst v) w'')→o.wp P a w' K (fun _ _ _=>False)):stepF P l Φ o d w' a:=fun K hK=>by
 rw [if_pos (by simp [Region.wanted,hg])];exact h K hK
theorem yielded_of {a:Act} {i g:Nat} {b:Bool} {oi:Oper} (hi:l[i]? = some oi) (hd:oi.dst=some g) (hg:a.tmps[g]?.getD undef=.bool b):yielded l.toArray a.tmps i=some b:=by
 unfold yielded;have:l.toArray[i]? = some oi:=by simpa using hi
 rw [this]
 show (match ((some oi).bind (·.dst)).bind (a.tmps[·]?) with | some (.bool b)=>some b | _=>none)=some b
 simp only [Option.bind_some,hd]
 have h:=hg
 cases hc:a.tmps[g]? with
 | none=>rw [hc] at h;cases h
 | some v =>
   rw [hc] at h;simp only [Option.getD_some] at h
   subst h;rfl
theorem stepF_yes {o oi:Oper} {d i g:Nat} {b:Bool} {w':World} {a:Act} (hg:o.guard=some (i,b)) (hi:l[i]? = some oi) (hd:oi.dst=some g) (hv:a.tmps[g]?.getD undef=.bool b)
  (h:∀ K:Act→World→Prop,(∀ v w'',Φ d v w''→Kp [] w' w''→K (a.put o.dst v) w'')→o.wp P a w' K (fun _ _ _=>False)):stepF P l Φ o d w' a:=fun K hK=>by
 rw [if_pos (by simp [Region.wanted,hg,yielded_of hi hd hv])];exact h K hK
theorem stepF_no {o oi:Oper} {d i g:Nat} {b:Bool} {w':World} {a:Act} (hg:o.guard=some (i,b)) (hi:l[i]? = some oi) (hd:oi.dst=some g) (hv:a.tmps[g]?.getD undef=.bool (!b)) (h:Φ d undef w'):stepF P l Φ o d w' a:=fun K hK=>by
 rw [if_neg (by simp [Region.wanted,hg,yielded_of hi hd hv])];exact h
theorem stepF_val {o:Oper} {d:Nat} {w':World} {a:Act} {K:Act→World→Prop} (v:Value) (hK:∀ v w'',Φ d v w''→Kp [] w' w''→K (a.put o.dst v) w'') (hr:(execOp a.eval o).run P w'=.ok (.value v) w') (h:Φ d v w'):o.wp P a w' K (fun _ _ _=>False):=by
 unfold Oper.wp;rw [hr];exact hK v w' h (Kp.refl _ _)
theorem run_move {a:Act} {o:Oper} {t:Nat} {v:Value} (ho:o.op=.move (.tmp t)) (hv:a.tmps[t]?.getD undef=v) (w:World):(execOp a.eval o).run P w=.ok (.value v) w:=by
 have hv':a.eval (.tmp t)=v:=by
  show a.tmps.getD t undef=v
  rw [Array.getD_eq_getD_getElem?];exact hv
 simp only [execOp,ho,hv'];rfl
theorem run_assign {a:Act} {o:Oper} {t:Nat} {v:Value} (ho:o.op=.assign (.tmp t)) (hv:a.tmps[t]?.getD undef=v) (w:World):(execOp a.eval o).run P w=.ok (.value v) w:=by
 have hv':a.eval (.tmp t)=v:=by
  show a.tmps.getD t undef=v
  rw [Array.getD_eq_getD_getElem?];exact hv
 simp only [execOp,ho,hv'];rfl
end
theorem IsRd.len {k:IntKind} {xs:List Int} {v:Value} {w:World} (h:IsRd k xs v w) {n:Nat} (hn:xs.length=n):∃ A c,v=.slice A n c∧n≤c∧Rd w w.heap.size A (xs.map (.int k)):=by
 subst hn;exact h
end Go.Proofs.YtanacapkfllbnaaGreatDoor
namespace Go.Proofs.YtanacapkfllbnaaGreatDoor
open Go.RowKit

end Go.Proofs.YtanacapkfllbnaaGreatDoor
namespace Go.Proofs.YtanacapkfllbnaaGreatDoor.RG
open Go.RowKit Go.Proofs.YtanacapkfllbnaaGreatDoor

class Rel where
 R:World→World→Prop
 refl:∀ w,R w w
 trans:∀ {a b c},R a b→R b c→R a c
 drew:∀ w,R w w.drew

section
variable [Rel] (P:Program) (l:List Oper) (Φ:Nat→Value→World→Prop)
end

section
variable [Rel] {P:Program} {l:List Oper} {Φ:Nat→Value→World→Prop}
end
section
variable [Rel] (P:Program) (l:List Oper) (Φ:Nat→Value→World→Prop)
end

section
variable [Rel] {P:Program} {l:List Oper} {Φ:Nat→Value→World→Prop}
end

structure GFact [Rel] where
 p:Value→World→Prop
 st:∀ v w1 w2,p v w1→Rel.R w1 w2→p v w2
end Go.Proofs.YtanacapkfllbnaaGreatDoor.RG
