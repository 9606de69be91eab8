/-
  A REGION THAT DRAWS ITS ORDER, BY FACTS, WITH ONE OPERATION THAT CHANGES WHAT IS THERE (an append onto a row that has room) AND, IF THERE IS ONE, A STORE BEHIND ALL OTHERS.
  CONDITIONS: those of the checks, which the kernel reckons.
-/
import Derived.Test.YtanacapkfllbnaaGreatDoorR04
import Derived.Test.YtanacapkfllbnaaGreatDoorR07
set_option maxRecDepth 100000
set_option maxHeartbeats 4000000
namespace Go.Proofs.YtanacapkfllbnaaGreatDoor
open Go.RowKit

def sinkT (l:List Oper) (st:Oper):Bool:=
 (List.range l.length).all fun j=>(List.range l.length).any (fun k=>decide (j < k) && (direct l k).contains j) || (st.after.any fun e=>Region.binds .any e && e.on == j)
section
variable (P:Program) (L:List Oper) (Φ:Nat→Value→World→Prop) (wf:Nat→Bool)
def factT (sds:List Nat) (a0:Act) (w0:World) (i1:Nat) (d1s:List Nat):Nat→List Oper→List (List Nat)→Prop
 | i,o :: r,ds :: dss =>
   (if i=i1 then True
    else if d1s.contains (o.dst.getD 0) then ∀ (x:Nat→Value) (w':World) (a:Act),Kp [] w0 w'→depAll Φ x w' ds→Ev x sds a0 a→stepF P L Φ o (o.dst.getD 0) w' a
    else ∀ (x:Nat→Value) (w':World) (a:Act),depAll Φ x w' ds→Ev x sds a0 a→stepF P L Φ o (o.dst.getD 0) w' a)∧factT sds a0 w0 i1 d1s (i+1) r dss
 | _,_,_=>True
end
def endT (P:Program) (st:Option Oper) (Q:Exit→Act→World→Prop) (a:Act) (w:World):Prop:=
 match st with
 | none=>Q .normal a w
 | some s=>s.wp P a w (fun a w=>Q .normal a w) (fun _ _ _=>False)
def direct' (o:Oper):List Nat:=(o.after.toList.filter (Region.binds .any ·)).map (·.on)
theorem getD_in' {listed:Array Bool} {i:Nat} (hi:i < listed.size) (h:listed.getD i false=false):listed.getD i true=false:=by
 simp [hi] at h ⊢;exact h
section
variable {P:Program} {L:List Oper} {Φ:Nat→Value→World→Prop}
theorem factT_get {sds:List Nat} {a0:Act} {w0:World} {i1:Nat} {d1s:List Nat}:∀ {r:List Oper} {dss:List (List Nat)} {i0:Nat},factT P L Φ sds a0 w0 i1 d1s i0 r dss→∀ (i:Nat) (o:Oper) (ds:List Nat),r[i]? = some o→dss[i]? = some ds→i0+i ≠ i1 →
  (∀ (x:Nat→Value) (w':World) (a:Act),(d1s.contains (o.dst.getD 0)=true→Kp [] w0 w')→depAll Φ x w' ds→Ev x sds a0 a→stepF P L Φ o (o.dst.getD 0) w' a)
 | o0 :: r,ds0 :: dss,i0,h,0,o,ds,ho,hi,hne=>by
   simp only [List.getElem?_cons_zero,Option.some.injEq] at ho hi
   subst ho hi;have h1:=h.1;rw [if_neg (by omega)] at h1;intro x w' a hk hd he;by_cases hc:d1s.contains (o0.dst.getD 0)=true
   ·rw [if_pos hc] at h1;exact h1 x w' a (hk hc) hd he
   ·rw [if_neg hc] at h1;exact h1 x w' a hd he
 | o0 :: r,ds0 :: dss,i0,h,i+1,o,ds,ho,hi,hne=>factT_get h.2 i o ds (by simpa using ho) (by simpa using hi) (by omega)
 | [],_,_,_,i,o,ds,ho,_,_=>by simp at ho
 | _ :: _,[],_,_,i,o,ds,_,hi,_=>by simp at hi

structure TInv (l:List Oper) (nL:Nat) (Φ:Nat→Value→World→Prop) (ok:Nat→Bool) (n i1:Nat) (info:List (List Bool × List Nat)) (a0:Act) (w0:World) (fuel:Nat) (listed:Array Bool) (a:Act) (w:World):Prop where
 lsize:listed.size=nL
 left:∃ U:List Nat,U.Nodup∧(∀ j,j ∈ U ↔ j < nL∧listed.getD j true=false)∧U.length=fuel
 rest:∀ j,l.length≤j→listed.getD j false=false
 size:a.tmps.size=n
 defers:a.defers=a0.defers
 others:∀ t,(∀ o ∈ l,o.dst ≠ some t)→a.tmps[t]? = a0.tmps[t]?
 world:listed.getD i1 false=false→Kp [] w0 w
 done:∀ (j:Nat) (o:Oper) (d:Nat),l[j]? = some o→o.dst=some d→listed.getD j false=true→(listed.getD i1 false=false ∨ ok d=true)→Φ d (a.tmps.getD d undef) w
 closed:∀ k j,k < l.length→j < l.length→listed.getD k false=true→ahead l info k j=true→listed.getD j false=true
 edges:∀ (k:Nat) (o:Oper),l[k]? = some o→listed.getD k false=true→∀ j ∈ direct l k,listed.getD j false=true

theorem ev_of {l:List Oper} {sds:List Nat} {a0 a:Act} (hcov:∀ o ∈ l,∀ d,o.dst=some d→sds.contains d=true) (ho:∀ t,(∀ o ∈ l,o.dst ≠ some t)→a.tmps[t]? = a0.tmps[t]?):Ev (fun t=>a.tmps.getD t undef) sds a0 a:=by
 refine ⟨fun t _=>by rw [Array.getD_eq_getD_getElem?],fun t ht=>?_⟩;rw [ho t (fun o hm he=>by rw [hcov o hm t he] at ht;cases ht)]
theorem fr_of {a a0:Act} {n:Nat} {sds:List Nat} {fr:(Nat→Value)→List Value} (hs:a.tmps.size=n) (h0:a0.tmps.size=n) (hd:a.defers=a0.defers) (ho:∀ t,sds.contains t=false→a.tmps[t]? = a0.tmps[t]?) (hp:sds.Pairwise (· < ·)) (hfr:∀ x,fillL x 0 sds a0.tmps.toList=fr x) :
  (⟨(fr fun t=>a.tmps.getD t undef).toArray,a0.defers⟩:Act)=a:=by
 have:=fr_self (ds:=sds) hs h0 hd (fun t ht=>ho t (by
  cases hc:sds.contains t with
  | false=>rfl
  | true=>exact absurd (List.contains_iff_mem.1 hc) ht))
 have key:∀ x,fillR x sds a0=⟨(fr x).toArray,a0.defers⟩:=fun x=>by
  simp only [fillR,Act.mk.injEq,and_true]
  rw [← hfr,fillL_eq x _ 0 sds (fun _ _=>Nat.zero_le _) hp]
  simp
 rw [← key];exact this
theorem tail_sound {l:List Oper} {st:Option Oper} {n i1 d1:Nat} {o1:Oper} {sds:List Nat} {dss:List (List Nat)} {a0:Act} {w0:World} {Q:Exit→Act→World→Prop} {wf post:Nat→Bool} {fr:(Nat→Value)→List Value}
  (sp:RelSpec l n sds (dss.map fun ds=>(List.replicate l.length false,ds))) (h0:a0.tmps.size=n) (hcov:∀ o ∈ l,∀ d,o.dst=some d→sds.contains d=true) (hin:∀ s,sds.contains s=true→∃ o ∈ l,o.dst=some s) (hp:sds.Pairwise (· < ·)) (hfr:∀ x,fillL x 0 sds a0.tmps.toList=fr x)
  (ho1:l[i1]? = some o1) (hd1:o1.dst=some d1) (hg1:o1.guard=none) {d1s:List Nat} (hds1:dss[i1]? = some d1s)
  (hwf:∀ d,wf d=true→∀ v w1 w2,Φ d v w1→Φ d v w2) (stable:∀ d v w1 w2,Φ d v w1→Kp [] w1 w2→Φ d v w2) (hpost:∀ (i:Nat) (o:Oper) (d:Nat) (ds:List Nat),l[i]? = some o→o.dst=some d→dss[i]? = some ds→i ≠ i1→post d=true→ds.contains d1=true)
  (hlate:∀ (i:Nat) (o:Oper) (d:Nat) (ds:List Nat),l[i]? = some o→o.dst=some d→dss[i]? = some ds→i ≠ i1→d1s.contains d=false→(wf d=true ∨ post d=true)∧∀ s ∈ ds,wf s=true ∨ post s=true)
  (hst:∀ s,st=some s→s.guard=none∧sinkT l s=true∧∀ e ∈ s.after,e.on < l.length)
  (steps:factT P (l ++ st.toList) Φ sds a0 w0 i1 d1s 0 l dss)
  (one:∀ (x:Nat→Value) (w':World) (a:Act),Kp [] w0 w'→depAll Φ x w' d1s→Ev x sds a0 a→∀ K:Act→World→Prop,(∀ v w'',Φ d1 v w''→K (a.put o1.dst v) w'')→o1.wp P a w' K (fun _ _ _=>False))
  (fin:∀ (x:Nat→Value) (w':World),depAll Φ x w' (sds.filter fun s=>wf s || post s)→endT P st Q ⟨(fr x).toArray,a0.defers⟩ w') :
  ∀ (fuel:Nat) (listed:Array Bool) (a:Act) (w:World),TInv l (l ++ st.toList).length Φ (fun d=>wf d || post d) n i1 (dss.map fun ds=>(List.replicate l.length false,ds)) a0 w0 fuel listed a w→wpAny P .any (l ++ st.toList).toArray Q fuel listed a w:=by
 have hi1:i1 < l.length:=(List.getElem?_eq_some_iff.1 ho1).1
 have hlen:(l ++ st.toList).length=l.length ∨ ∃ s,st=some s∧(l ++ st.toList).length=l.length+1:=by
  cases st with
  | none=>left;simp
  | some s=>right;exact ⟨s,rfl,by simp⟩
 have hget:∀ {j:Nat} {o:Oper},l[j]? = some o→(l ++ st.toList).toArray[j]? = some o:=fun {j o} h=>by
  have:=(List.getElem?_eq_some_iff.1 h).1
  simp [List.getElem?_append_left this,h]
 have hother:∀ {a:Act},(∀ t,(∀ o ∈ l,o.dst ≠ some t)→a.tmps[t]? = a0.tmps[t]?)→∀ t,sds.contains t=false→a.tmps[t]? = a0.tmps[t]? := fun h t ht=>h t (fun o hm he=>by rw [hcov o hm t he] at ht;cases ht)
 have hah:∀ {i j:Nat} {ds:List Nat},dss[i]? = some ds→∀ {d:Nat},dstOf l j=some d→(ahead l (dss.map fun ds=>(List.replicate l.length false,ds)) i j=true ↔ ds.contains d=true):=fun {i j ds} hds {d} hd=>by
  simp [ahead,hds,hd,List.getD_eq_getElem?_getD,List.getElem?_replicate]
  intro h
  split at h <;> simp at h

 have ending:∀ {fuel:Nat} {listed:Array Bool} {a:Act} {w:World},TInv l (l ++ st.toList).length Φ (fun d=>wf d || post d) n i1 (dss.map fun ds=>(List.replicate l.length false,ds)) a0 w0 fuel listed a w→(∀ j,j < l.length→listed.getD j false=true) →
   endT P st Q a w:=by
  intro fuel listed a w I hall
  have:=fin (fun t=>a.tmps.getD t undef) w (depAll_of fun s hs=>by
   obtain ⟨hs1,hs2⟩:=List.mem_filter.1 hs;obtain ⟨o,hm,hd⟩:=hin s (List.contains_iff_mem.2 hs1);obtain ⟨j,hj⟩:=List.getElem?_of_mem hm
   exact I.done j o s hj hd (hall j (List.getElem?_eq_some_iff.1 hj).1) (.inr hs2))
  rwa [fr_of I.size h0 I.defers (hother I.others) hp hfr] at this
 intro fuel
 induction fuel with
 | zero =>
   intro listed a w I
   have hun:∀ j,j < (l ++ st.toList).length→listed.getD j false=true:=by
    intro j hj;obtain ⟨U,_,hU,hl0⟩:=I.left
    cases hc:listed.getD j false with
    | true=>rfl
    | false =>
      have hjs:j < listed.size:=by rw [I.lsize];exact hj
      have:j ∈ U:=(hU j).2 ⟨hj,getD_in' hjs hc⟩;rw [List.eq_nil_of_length_eq_zero hl0] at this
      cases this
   have hstn:st=none:=by
    rcases hlen with h | ⟨s,_,h⟩
    ·cases st with
     | none=>rfl
     | some s=>simp at h
    ·have h1:=hun l.length (by omega);rw [I.rest l.length (Nat.le_refl _)] at h1
     cases h1
   have hr:Region.ready .any (l ++ st.toList).toArray listed=[]:=by
    apply List.eq_nil_iff_forall_not_mem.2
    intro j hj;obtain ⟨h1,o,ho,_⟩:=mem_ready.1 hj;have hjl:j < (l ++ st.toList).length:=by have:=(Array.getElem?_eq_some_iff.1 ho).1;simpa using this
    have h2:=hun j hjl;have hjs:j < listed.size:=by rw [I.lsize];exact hjl
    simp [hjs] at h1 h2
    rw [h1] at h2
    cases h2
   subst hstn;exact ⟨hr,ending I (fun j hj=>hun j (by simpa using hj))⟩
 | succ fuel ih =>
   intro listed a w I
   have readyAll:∀ j,j < l.length→(∀ k,k < j→listed.getD k false=true)→listed.getD j false=false→j ∈ Region.ready .any (l ++ st.toList).toArray listed:=by
    intro j hj hlow hc;refine mem_ready.2 ⟨getD_in' (by rw [I.lsize];simp;omega) hc,l[j],hget (List.getElem?_eq_getElem hj),fun e he _=>hlow e.on (sp.edge j l[j] (List.getElem?_eq_getElem hj) e he)⟩
   have noneLeft:Region.ready .any (l ++ st.toList).toArray listed=[]→∀ j,j < l.length→listed.getD j false=true:=by
    intro hr j
    induction j using Nat.strongRecOn with
    | _ j ihj =>
      intro hj
      cases hc:listed.getD j false with
      | true=>rfl
      | false =>
        have:=readyAll j hj (fun k hk=>ihj k hk (by omega)) hc;rw [hr] at this
        cases this
   refine ⟨fun hr=>?_,fun i hi=>?_⟩
   ·have hall:=noneLeft hr
    have hstn:st=none:=by
     cases hs:st with
     | none=>rfl
     | some s =>
       exfalso
       subst hs
       have:l.length ∈ Region.ready .any (l ++ (some s).toList).toArray listed:=by
        exact mem_ready.2 ⟨getD_in' (by rw [I.lsize];simp) (I.rest _ (Nat.le_refl _)),s,by simp,fun e he _=>hall _ ((hst s rfl).2.2 e he)⟩
       rw [hr] at this
       cases this
    subst hstn;exact ending I hall
   ·obtain ⟨hun,o,ho,hdeps⟩:=mem_ready.1 hi;have hiL:i < (l ++ st.toList).length:=by have:=(Array.getElem?_eq_some_iff.1 ho).1;simpa using this
    have his:i < listed.size:=by rw [I.lsize];exact hiL
    have hunf:listed.getD i false=false:=by simp [his] at hun ⊢;exact hun
    have hdir0:∀ k ∈ direct' o,listed.getD k false=true:=by
     intro k hk;simp only [direct',List.mem_map,List.mem_filter] at hk
     obtain ⟨e,⟨he,hb⟩,rfl⟩:=hk;exact hdeps e (by simpa using he) hb
    rcases Nat.lt_or_ge i l.length with hil | hil
    ·have ho':l[i]? = some o:=by
      have:=ho
      simp [List.getElem?_append_left hil] at this
      simpa [List.getElem?_eq_getElem hil] using this
     obtain ⟨d,hd,hdn,huniq⟩:=sp.dst i o ho'
     have hdir:∀ k ∈ direct l i,listed.getD k false=true:=by
      intro k hk;unfold direct at hk;rw [ho'] at hk;exact hdir0 k hk
     have hahead:∀ j,j < l.length→ahead l (dss.map fun ds=>(List.replicate l.length false,ds)) i j=true→listed.getD j false=true:=by
      intro j hj ha;rcases sp.close i o ho' j l[j] (List.getElem?_eq_getElem hj) ha with h1 | ⟨k,hk,h1⟩
      ·exact hdir j h1
      ·have hkl:k < l.length:=by
        unfold direct at hk;rw [ho'] at hk;simp only [List.mem_map,List.mem_filter] at hk
        obtain ⟨e,⟨he,_⟩,rfl⟩:=hk;have:=sp.edge i o ho' e (by simpa using he);omega
       exact I.closed k j hkl hj (hdir k hk) h1
     obtain ⟨ds,hds⟩:∃ ds,dss[i]? = some ds:=by
      have:i < dss.length:=by have:=sp.infoLen;rw [List.length_map] at this;omega
      exact ⟨_,List.getElem?_eq_getElem this⟩
     have hev:Ev (fun t=>a.tmps.getD t undef) sds a0 a:=ev_of hcov I.others
     have hdepsF:(listed.getD i1 false=false ∨ ∀ s ∈ ds,wf s=true ∨ post s=true)→depAll Φ (fun t=>a.tmps.getD t undef) w ds:=fun hor=>depAll_of fun s hs=>by
      obtain ⟨_,_,hse⟩:=sp.mask i (List.replicate l.length false) ds (by simp [hds]);have hsin:=hse s hs;obtain ⟨oj,hm,hdj⟩:=hin s (List.contains_iff_mem.2 hsin);obtain ⟨j,hj⟩:=List.getElem?_of_mem hm;have hjl:=(List.getElem?_eq_some_iff.1 hj).1;have ha:=(hah (i:=i) (j:=j) hds (d:=s) (by simp [dstOf,hj,hdj])).2 (List.contains_iff_mem.2 hs);exact I.done j oj s hj hdj (hahead j hjl ha) (hor.imp id fun h=>by simpa using h s hs)
     have hslot:∀ v,((a.put (some d) v).tmps.getD d undef)=v:=fun v=>by
      have:d < a.tmps.size:=by rw [I.size];exact hdn
      simp [Act.put,this]
     have hslot':∀ v t,t ≠ d→(a.put (some d) v).tmps[t]? = a.tmps[t]? := fun v t ht=>by
      simp [Act.put,Array.getElem?_setIfInBounds_ne (Ne.symm ht)]
     have hset:∀ j,j ≠ i→∀ b,(listed.setIfInBounds i true).getD j b=listed.getD j b:=fun j hj b=>getD_set_ne b (Ne.symm hj)
     have hseti:(listed.setIfInBounds i true).getD i false=true:=by simp [his]

     have next:∀ v w'',(Φ d v w''∧(i ≠ i1→Kp [] w w''))→TInv l (l ++ st.toList).length Φ (fun d=>wf d || post d) n i1 (dss.map fun ds=>(List.replicate l.length false,ds)) a0 w0 fuel (listed.setIfInBounds i true) (a.put o.dst v) w'':=by
      intro v w'' hv;rw [hd];refine ⟨by simpa using I.lsize,?_,fun j hj=>by rw [hset j (by omega)];exact I.rest j hj,by simpa [Act.put] using I.size,I.defers,fun t ht=>?_,?_,?_,?_,?_⟩
      ·obtain ⟨U,hnd,hU,hl0⟩:=I.left;have hiU:i ∈ U:=(hU i).2 ⟨hiL,hun⟩;refine ⟨U.erase i,hnd.erase i,fun j=>?_,by rw [List.length_erase_of_mem hiU];omega⟩;rw [hnd.mem_erase_iff,hU];by_cases hji:j=i
       ·subst hji
        simp [his]
       ·rw [hset j hji]
        simp [hji]
      ·rw [hslot' v t (fun e=>ht o (List.mem_of_getElem? ho') (by rw [hd,e]))];exact I.others t ht
      ·intro hl1;by_cases hi1e:i=i1
       ·subst hi1e;rw [hseti] at hl1
        cases hl1
       ·rw [hset i1 (Ne.symm hi1e)] at hl1;exact (I.world hl1).trans (hv.2 hi1e)
      ·intro j oj dj hj hdj hlj hor;by_cases hji:j=i
       ·subst hji;rw [ho'] at hj;injection hj with hj
        subst hj;rw [hd] at hdj;injection hdj with hdj
        subst hdj;rw [hslot];exact hv.1
       ·rw [hset j hji] at hlj;have hdd:dj ≠ d:=fun e=>hji (huniq j oj hj (by rw [hdj,e]))
        have hsl:((a.put (some d) v).tmps.getD dj undef)=a.tmps.getD dj undef:=by simp only [Array.getD_eq_getD_getElem?,hslot' v dj hdd]
        rw [hsl];by_cases hi1e:i=i1
        ·subst hi1e
         have hw9:wf dj=true ∨ post dj=true:=by
          rcases hor with h | h
          ·rw [hseti] at h;cases h
          ·simpa using h
         rcases hw9 with hw9 | hw9
         ·exact hwf dj hw9 _ _ _ (I.done j oj dj hj hdj hlj (.inl hunf))
         ·exfalso
          have hjl:=(List.getElem?_eq_some_iff.1 hj).1
          obtain ⟨dsj,hdsj⟩:∃ dsj,dss[j]? = some dsj:=by
           have:j < dss.length:=by have:=sp.infoLen;rw [List.length_map] at this;omega
           exact ⟨_,List.getElem?_eq_getElem this⟩
          have h9:=hpost j oj dj dsj hj hdj hdsj hji hw9;have:=I.closed j i hjl hil hlj ((hah (i:=j) (j:=i) hdsj (d:=d1) (by simp [dstOf,ho1,hd1])).2 h9);rw [hunf] at this
          cases this
        ·rw [hset i1 (Ne.symm hi1e)] at hor;exact stable _ _ _ _ (I.done j oj dj hj hdj hlj hor) (hv.2 hi1e)
      ·intro k j hkl hj hlk hak
       have hjl:listed.getD j false=true:=by
        by_cases hki:k=i
        ·subst hki;exact hahead j hj hak
        ·rw [hset k hki] at hlk;exact I.closed k j hkl hj hlk hak
       by_cases hji:j=i
       ·subst hji;exact hseti
       ·rw [hset j hji];exact hjl
      ·intro k ok hk hlk j hj
       have hjl:listed.getD j false=true:=by
        by_cases hki:k=i
        ·subst hki;exact hdir j hj
        ·rw [hset k hki] at hlk;exact I.edges k ok hk hlk j hj
       by_cases hji:j=i
       ·subst hji;exact hseti
       ·rw [hset j hji];exact hjl
     unfold wpOp;simp only [ho]
     by_cases hi1e:i=i1
     ·subst hi1e;rw [ho1] at ho';injection ho' with ho'
      subst ho';rw [hds1] at hds;injection hds with hds
      subst hds;rw [if_pos (by simp [Region.wanted,hg1])];rw [hd1] at hd;injection hd with hd
      subst hd;exact .inl (wp_no_exit (one _ w a (I.world hunf) (hdepsF (.inl hunf)) hev _ (fun v w'' hv=>ih _ _ _ (next v w'' ⟨hv,fun h=>absurd rfl h⟩))))
     ·have hkw:d1s.contains d=true→listed.getD i1 false=false:=fun hc=>by
       cases hl1:listed.getD i1 false with
       | false=>rfl
       | true =>
         have:=I.closed i1 i hi1 hil hl1 ((hah (i:=i1) (j:=i) hds1 (d:=d) (by simp [dstOf,ho',hd])).2 hc);rw [hunf] at this
         cases this
      have hdep:depAll Φ (fun t=>a.tmps.getD t undef) w ds:=hdepsF (by
       cases hc:d1s.contains d with
       | true=>exact .inl (hkw hc)
       | false=>exact .inr (hlate i o d ds ho' hd hds hi1e hc).2)
      have step:=factT_get steps i o ds ho' hds (by omega) (fun t=>a.tmps.getD t undef) w a (fun hc=>by
       rw [hd] at hc
       exact I.world (hkw hc)) hdep hev
      unfold stepF at step;rw [hd] at step;simp only [Option.getD_some] at step
      have st1:=step (wpAny P .any (l ++ st.toList).toArray Q fuel (listed.setIfInBounds i true)) (fun v w'' hv hk=>by rw [← hd];exact ih _ _ _ (next v w'' ⟨hv,fun _=>hk⟩));by_cases hw:Region.wanted o (yielded (l ++ st.toList).toArray a.tmps)=true
      ·rw [if_pos hw] at st1;rw [if_pos hw];exact .inl (wp_no_exit st1)
      ·rw [if_neg hw] at st1;rw [if_neg hw];exact ih _ _ _ (next undef w ⟨st1,fun _=>Kp.refl _ _⟩)
    ·
     obtain ⟨s,hs,hl2⟩:∃ s,st=some s∧(l ++ st.toList).length=l.length+1:=by
      rcases hlen with h | h
      ·omega
      ·exact h
     subst hs;obtain rfl:i=l.length:=by omega
     obtain rfl:o=s:=by simpa using ho.symm
     obtain ⟨hsg,hsk,hse⟩:=hst o rfl
     have hall:∀ d j,l.length - j=d→j < l.length→listed.getD j false=true:=by
      intro d
      induction d using Nat.strongRecOn with
      | _ d ihd =>
        intro j hjd hj;have h1:=List.all_eq_true.1 hsk j (List.mem_range.2 hj);simp only [Bool.or_eq_true] at h1
        rcases h1 with h1 | h1
        ·obtain ⟨k,hk,h2⟩:=List.any_eq_true.1 h1;simp only [Bool.and_eq_true,decide_eq_true_eq] at h2
         have hkl:=List.mem_range.1 hk;have hkk:=ihd (l.length - k) (by omega) k rfl hkl;exact I.edges k l[k] (List.getElem?_eq_getElem hkl) hkk j (List.contains_iff_mem.1 h2.2)
        ·obtain ⟨e,he,h2⟩:=Array.any_eq_true'.1 h1;simp only [Bool.and_eq_true,beq_iff_eq] at h2
         have:=hdeps e he h2.1
         rwa [h2.2] at this
     have hall':∀ j,j < l.length→listed.getD j false=true:=fun j hj=>hall _ j rfl hj
     obtain rfl:fuel=0:=by
      obtain ⟨U,hnd,hU,hl0⟩:=I.left
      have hU1:∀ j ∈ U,j=l.length:=fun j hj=>by
       obtain ⟨h1,h2⟩:=(hU j).1 hj;rcases Nat.lt_or_ge j l.length with h | h
       ·have h3:=hall' j h;have hjs:j < listed.size:=by rw [I.lsize];exact h1
        simp [hjs] at h2 h3
        rw [h2] at h3
        cases h3
       ·omega
      match U,hnd,hU1,hl0 with
      | [],_,_,h=>simp at h
      | [x],_,_,h=>simpa using h.symm
      | x :: y :: U,hnd,h1,_ =>
        have:=h1 x (by simp);have:=h1 y (by simp)
        simp at hnd
        omega
     unfold wpOp;simp only [ho]
     rw [if_pos (by simp [Region.wanted,hsg])];refine .inl (wp_no_exit (Oper.wp_mono (fun a w h=>?_) (ending I hall')));refine ⟨?_,h⟩
     apply List.eq_nil_iff_forall_not_mem.2
     intro j hj;obtain ⟨h1,o2,ho2,_⟩:=mem_ready.1 hj;have hjl:j < l.length+1:=by have:=(Array.getElem?_eq_some_iff.1 ho2).1;simpa using this
     rcases Nat.lt_or_ge j l.length with h | h
     ·have h3:=getD_set_true (i:=l.length) (hall' j h);have hjs:j < (listed.setIfInBounds l.length true).size:=by simp;omega
      simp only [Array.getD_eq_getD_getElem?,Array.getElem?_eq_getElem hjs,Option.getD_some] at h1 h3
      rw [h1] at h3
      cases h3
     ·obtain rfl:j=l.length:=by omega
      simp [his] at h1
end
def tailOk (l:List Oper) (st:Option Oper) (i1 d1:Nat) (dss:List (List Nat)) (wfs posts:List Nat):Bool:=
 (match l[i1]? with | some o=>o.dst == some d1 && o.guard.isNone | none=>false) &&
 ((List.range l.length).all fun i=>match dstOf l i,dss[i]? with
   | some d,some ds=>i == i1 || ((dss.getD i1 []).contains d || ((wfs.contains d || posts.contains d) && ds.all fun s=>wfs.contains s || posts.contains s)) && (!posts.contains d || ds.contains d1)
   | _,_=>true) &&
 (match st with | none=>true | some s=>s.guard.isNone && sinkT l s && s.after.all fun e=>decide (e.on < l.length))
theorem factOf_wf {fs:List (Nat × SFact)}:∀ {wfs:List Nat} {us:List Value},wfs.map (fun d=>factOf fs d)=us.map (fun u v _=>v=u)→∀ d,wfs.contains d=true→∀ v w1 w2,factOf fs d v w1→factOf fs d v w2
 | [],_,_,d,h,_,_,_,_=>by simp at h
 | d0 :: wfs,[],h,_,_,_,_,_,_=>by simp at h
 | d0 :: wfs,u :: us,h,d,hd,v,w1,w2,hv=>by
   rw [List.map_cons,List.map_cons] at h;injection h with h1 h2
   by_cases e:d=d0
   ·subst e;rw [h1] at hv ⊢;exact hv
   ·exact factOf_wf h2 d (by simpa [e] using hd) v w1 w2 hv
theorem wp_region_tail {P:Program} {id:Nat} {ops:Array Oper} {a0:Act} {w0:World} {Q:Exit→Act→World→Prop} (hm:P.follows .mixedOrders=true) (k n i1 d1:Nat) (sds:List Nat) (dss:List (List Nat)) (wfs posts:List Nat) (us:List Value) (fs:List (Nat × SFact))
  (hops:ops=(ops.toList.take k ++ (ops.toList[k]?).toList).toArray)
  (hok:relOk (ops.toList.take k) n sds (dss.map fun ds=>(List.replicate (ops.toList.take k).length false,ds))=true)
  (hok2:(((ops.toList.take k).all fun o=>sds.contains (o.dst.getD 0)) && (sds.all fun s=>(ops.toList.take k).any fun o=>o.dst == some s) && decide (sds.Pairwise (· < ·)) && (sds.all fun s=>decide (s < n)))=true)
  (hokT:tailOk (ops.toList.take k) (ops.toList[k]?) i1 d1 dss wfs posts=true) (hwfs:wfs.map (fun d=>factOf fs d)=us.map (fun u v _=>v=u))
  (h0:a0.tmps.size=n) (fr:(Nat→Value)→List Value) (hfr:∀ x,fillL x 0 sds a0.tmps.toList=fr x)
  (steps:factT P (ops.toList.take k ++ (ops.toList[k]?).toList) (factOf fs) sds a0 w0 i1 (dss.getD i1 []) 0 (ops.toList.take k) dss)
  (one:∀ o1,(ops.toList.take k)[i1]? = some o1→∀ (x:Nat→Value) (w':World) (a:Act),Kp [] w0 w'→depAll (factOf fs) x w' (dss.getD i1 [])→Ev x sds a0 a→∀ K:Act→World→Prop,(∀ v w'',factOf fs d1 v w''→K (a.put o1.dst v) w'')→o1.wp P a w' K (fun _ _ _=>False))
  (fin:∀ (x:Nat→Value) (w':World),depAll (factOf fs) x w' (sds.filter fun s=>wfs.contains s || posts.contains s)→endT P (ops.toList[k]?) Q ⟨(fr x).toArray,a0.defers⟩ w') :
  (Code.region id ops true).wp P Q a0 w0:=by
 simp only [Bool.and_eq_true,List.all_eq_true,List.any_eq_true,decide_eq_true_eq,beq_iff_eq] at hok2
 obtain ⟨⟨⟨c1,c2⟩,c3⟩,c4⟩:=hok2;have sp:=relOk_spec hok;unfold tailOk at hokT;simp only [Bool.and_eq_true] at hokT
 obtain ⟨⟨t1,t3⟩,t4⟩:=hokT
 obtain ⟨o1,ho1⟩:∃ o1,(ops.toList.take k)[i1]? = some o1:=by
  cases h:(ops.toList.take k)[i1]? with
  | none=>rw [h] at t1;cases t1
  | some o=>exact ⟨o,rfl⟩
 rw [ho1] at t1;simp only [Bool.and_eq_true,beq_iff_eq,Option.isNone_iff_eq_none] at t1
 have hds1:dss[i1]? = some (dss.getD i1 []):=by
  have h1:=(List.getElem?_eq_some_iff.1 ho1).1;have h2:=sp.infoLen;rw [List.length_map] at h2;rw [List.getD_eq_getElem?_getD,List.getElem?_eq_getElem (by omega)];rfl
 rw [List.all_eq_true] at t3
 have hcov:∀ o ∈ ops.toList.take k,∀ d,o.dst=some d→sds.contains d=true:=fun o ho d hd=>by
  have:=c1 o ho
  rwa [hd] at this
 have main:=tail_sound (P:=P) (Φ:=factOf fs) (Q:=Q) (wf:=fun d=>wfs.contains d) (post:=fun d=>posts.contains d) (fr:=fr) (a0:=a0) (w0:=w0) sp h0 hcov (fun s hs=>by
   obtain ⟨o,ho,he⟩:=c2 s (List.contains_iff_mem.1 hs)
   exact ⟨o,ho,he⟩) c3 hfr ho1 t1.1 t1.2 hds1 (factOf_wf hwfs) (factOf_stable fs)
  (fun i o d ds ho hd hds hne hc=>by
   have h3:=t3 i (List.mem_range.2 (List.getElem?_eq_some_iff.1 ho).1);rw [show dstOf (ops.toList.take k) i=some d by simp only [dstOf,ho,Option.bind_some,hd],hds] at h3;simp only [Bool.or_eq_true,beq_iff_eq,Bool.and_eq_true,Bool.not_eq_true'] at h3
   rcases h3 with h3 | h3
   ·exact absurd h3 hne
   ·rcases h3.2 with h4 | h4
    ·rw [hc] at h4;cases h4
    ·exact h4)
  (fun i o d ds ho hd hds hne hc=>by
   have h3:=t3 i (List.mem_range.2 (List.getElem?_eq_some_iff.1 ho).1);rw [show dstOf (ops.toList.take k) i=some d by simp only [dstOf,ho,Option.bind_some,hd],hds] at h3;simp only [Bool.or_eq_true,beq_iff_eq,Bool.and_eq_true,List.all_eq_true] at h3
   rcases h3 with h3 | ⟨h3 | h3,_⟩
   ·exact absurd h3 hne
   ·rw [hc] at h3;cases h3
   ·exact h3)
  (fun s hs=>by
   rw [hs] at t4;simp only [Bool.and_eq_true,Option.isNone_iff_eq_none] at t4
   refine ⟨t4.1.1,t4.1.2,fun e he=>?_⟩;have h4:=t4.2;rw [Array.all_eq_true_iff_forall_mem] at h4
   simpa using h4 e he)
  steps (one o1 ho1) fin
 refine wp_region_any hm ?_;rw [hops];have hsz:(ops.toList.take k ++ (ops.toList[k]?).toList).toArray.size=(ops.toList.take k ++ (ops.toList[k]?).toList).length:=by simp
 have hfalse:∀ (m j:Nat) (b:Bool),j < m→(Array.replicate m false).getD j b=false:=fun m j b hj=>by simp [hj]
 have hff:∀ (m j:Nat),(Array.replicate m false).getD j false=false:=fun m j=>by
  rcases Nat.lt_or_ge j m with h | h
  ·exact hfalse m j false h
  ·simp [h]
 rw [← hops];have hopsz:ops.size=(ops.toList.take k ++ (ops.toList[k]?).toList).length:=by conv=>lhs;rw [hops];simp only [List.size_toArray]
 have:=main ops.size (Array.replicate ops.size false) a0 { w0 with drawn:=w0.drawn+1 } ⟨by simpa using hopsz,⟨List.range ops.size,List.nodup_range,fun j=>?_,by simp⟩,fun j _=>hff _ _,h0,rfl,fun _ _=>rfl,?_,?_,?_,?_⟩
 ·rwa [← hops] at this
 ·rw [List.mem_range,← hopsz];exact ⟨fun h=>⟨h,hfalse _ j true h⟩,fun h=>h.1⟩
 ·exact fun _=>(Kp.refl [] w0).drew
 ·intro j o d _ _ hl;rw [hff] at hl
  cases hl
 ·intro k' j _ _ hl;rw [hff] at hl
  cases hl
 ·intro k' o _ hl;rw [hff] at hl
  cases hl
theorem eval_of {a:Act} {t:Nat} {v:Value} (h:a.tmps[t]?.getD undef=v):a.eval (.tmp t)=v:=by
 show a.tmps.getD t undef=v
 rw [Array.getD_eq_getD_getElem?];exact h
def AppP (w0:World) (base:Nat) (e:TypeId) (size n:Nat) (old:Value) (xs:List Value) (v:Value) (w:World):Prop:=
 ∃ (A:Option Addr) (c:Nat),v=.slice A n c∧w.ownsRow base e size (.slice A n c) n xs∧Kp (ownL old) w0 w∧∀ x ∈ ownL (.slice A n c),x ∈ ownL old ∨ w0.heap.size≤x
theorem AppP.st {w0:World} {base:Nat} {e:TypeId} {size n:Nat} {old:Value} {xs:List Value}:∀ (v:Value) (w1 w2:World),AppP w0 base e size n old xs v w1→Kp [] w1 w2→AppP w0 base e size n old xs v w2:=fun _ _ _ ⟨A,c,h1,h2,h3,h4⟩ hk =>
 ⟨A,c,h1,own_kp0 h2 hk,h3.trans (hk.nil),h4⟩
theorem wp_append_app {P:Program} {o:Oper} {a:Act} {K:Act→World→Prop} {w0 w:World} (s x:Nat) (t:TypeId)
  (ho:o.op=.call { callee:=.builtin .append,args:=#[.tmp s,.tmp x],argTypes:=#[t,t] })
  (base:Nat) (e:TypeId) (i:TypeInfo) (z:Value) (size bytes:Nat) (ht:P.underlying t=some (.slice e)) (hi:P.info? e=some i) (hz:i.zero=some z) (hsize:i.size=size) (hby:i.bytes=bytes) (hzs:z.cells.size=size) (hsz:0 < size)
  (v:Value) (n:Nat) (xs:List Value) (hs:a.tmps[s]?.getD undef=v) (hown:w0.ownsRow base e size v n xs) (hk:Kp [] w0 w)
  (B:Nat) (A:Option Addr) (m c:Nat) (news:List Value) (hx:a.tmps[x]?.getD undef=.slice A m c) (hl:news.length=m * size) (hr:Rd w B A news) (h1:∀ u ∈ news,u.oneCell'=true)
  (h63:n+m≤maxLen) (hbytes:(n+m) * bytes≤140737488355328) (hbase:base≤w0.heap.size)
  (hK:∀ v' w',AppP w0 base e size (n+m) v (xs ++ news) v' w'→K (a.put o.dst v') w'):o.wp P a w K (fun _ _ _=>False):=
 wp_append_rd (.tmp s) (.tmp x) t ho base e i z size bytes ht hi hz hsize hby hzs hsz v n xs (eval_of hs) (own_kp0 hown hk) B A m c news (eval_of hx) hl hr h1 h63 hbytes (Nat.le_trans hbase hk.size) (fun v' w' h1 h2 h3=>by
  obtain ⟨A',c',rfl,_⟩:=own_form h1;refine hK _ _ ⟨A',c',rfl,h1,hk.nil.trans ((Kp.refl _ w).grown h2 (fun x hx=>.inl (mem_ownL.2 hx))),fun x hx=>?_⟩;rw [mem_ownL] at hx;rcases h3 with h3 | h3
  ·rw [h3] at hx;exact .inl (mem_ownL.2 hx)
  ·rw [h3] at hx;injection hx with hx
   subst hx
   exact .inr hk.size)
def SFact.vals (n:Nat) (xs:List Value):SFact:=⟨fun v w=>∃ (A:Option Addr) (c:Nat),v=.slice A n c∧n≤c∧Rd w w.heap.size A xs,fun _ _ _ h hk=>by
 obtain ⟨A,c,h1,h2,h3⟩:=h
 exact ⟨A,c,h1,h2,(h3.kp0 hk).bound hk.size⟩⟩
theorem vals_new (w:World) (xs:List Value) (t:TypeId) (n:Nat):(SFact.vals n xs).p (.slice (some ⟨w.heap.size,0,none⟩) n n) (w.alloc (.cells xs.toArray t)):=
 ⟨_,n,rfl,Nat.le_refl _,(Rd.new w xs.toArray t (0,0)).bound (by simp)⟩
def SFact.own (base:Nat) (e:TypeId) (size n:Nat) (xs:List Value):SFact:=⟨fun v w=>w.ownsRow base e size v n xs,fun _ _ _ h hk=>own_kp0 h hk⟩
end Go.Proofs.YtanacapkfllbnaaGreatDoor
