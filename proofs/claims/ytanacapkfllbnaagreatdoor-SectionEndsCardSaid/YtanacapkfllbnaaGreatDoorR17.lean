/-
  LAYER 6 (alpha): grow: the tree of signs and lengths, and its words.
  CONDITIONS: as it says.
-/
import Derived.Test.YtanacapkfllbnaaGreatDoorR14
import Derived.Deep.RegionLaw
import Derived.Deep.DeepMust
set_option maxRecDepth 100000
set_option maxHeartbeats 4000000
namespace Go.Proofs.YtanacapkfllbnaaGreatDoor
open Go.RowKit

def prs (l:List (Nat × Nat)):List Value:=l.flatMap fun x=>[.int .i64 (x.1:Int),.int .i64 (x.2:Int)]
theorem prs_cons (x:Nat × Nat) (l:List (Nat × Nat)):prs (x :: l)=.int .i64 (x.1:Int) :: .int .i64 (x.2:Int) :: prs l:=by unfold prs;rw [List.flatMap_cons];rfl
theorem prs_app (l m:List (Nat × Nat)):prs (l ++ m)=prs l ++ prs m:=by unfold prs;rw [List.flatMap_append]
def slT (T:CT) (p:List Bool):List (Nat × Nat):=(T.al p).map fun x=>(x.1,x.2.length)
def SFact.node (lo:Nat) (cells:List Value):SFact:=⟨fun v w=>∃ g,v=.pointer (some ⟨g,0,none⟩)∧lo≤g∧Blk w g 175 cells,fun _ _ _ h hk=>by
 obtain ⟨g,h1,h2,h3⟩:=h
 exact ⟨g,h1,h2,h3.kp0 hk⟩⟩
def SFact.rest (B n c:Nat) (cells:List Value):SFact:=⟨fun v w=>∃ A,v=.slice A n c∧Rd w B A cells,fun _ _ _ h hk=>by
 obtain ⟨A,h1,h2⟩:=h
 exact ⟨A,h1,h2.kp0 hk⟩⟩
theorem rd_rest {w:World} {B nL cL:Nat} {ad:Addr} {rest:List (Nat × Nat)} (h:Rd w B (some (ad.add 2)) (prs rest)) (hn:rest.length+1=nL) (hc:nL≤cL):Rd w B (if cL=1 then some ad else some ⟨ad.block,ad.off+2,none⟩) (prs rest):=by
 split
 ·have:rest=[]:=List.eq_nil_of_length_eq_zero (by omega);subst this;exact Rd.nil _ _ _
 ·rw [show ad.add 2=⟨ad.block,ad.off+2,none⟩ from by simp [Addr.add]] at h;exact h
def GrowP (p:Nat) (P:Nat→Prop) (T:CT) (pre:List Bool) (rest:List (Nat × Nat)) (f:Nat→Option (List Bool)) (r:Value) (rows:List Value) (w:World) (e:Ending) (w':World):Prop:=
 ∃ (v:Value) (A:Option Addr) (n c:Nat) (ws:List Value),e=.returned (.tuple #[v,.slice A n c])∧Blk w' p 170 (r :: (ws ++ rows))∧WordsM w' P w'.heap.size (updL f (T.al pre)) ws∧NodeM w' w.heap.size w'.heap.size T v∧Rd w' p A (prs rest)∧rest.length=n∧n≤c∧Kp [p] w w'
theorem code_set {r:Value} {ws rows:List Value} {s:Nat} (hs:s < ws.length) (v:Value):(r :: (ws ++ rows)).set (1+s) v=r :: (ws.set s v ++ rows):=by
 rw [Nat.add_comm,List.set_cons_succ,List.set_append_left _ _ hs]
theorem grow_leaf (p s nL cL nb cb:Nat) (AL Ab:Option Addr) (pre:List Bool) (rest:List (Nat × Nat)) (f:Nat→Option (List Bool)) (r:Value) (ws rows:List Value) (w:World) (hB:Blk w p 170 (r :: (ws ++ rows))) (P:Nat→Prop) (hW:WordsM w P w.heap.size f ws) (hPp:¬ P p) (hPn:∀ g,w.heap.size≤g→P g)
  (hL:Rd w p AL (prs ((s,pre.length) :: rest))) (hn:rest.length+1=nL) (hc:nL≤cL) (hb:Rd w w.heap.size Ab (pre.map .bool)) (hnb:pre.length=nb) (h0:1≤nb) (hnb2:nb≤256) (hs:s≤256) :
  Calls Tryz.prog 114 #[.pointer (some ⟨p,0,none⟩),.slice AL nL cL,.slice Ab nb cb] w (GrowP p P (.leaf s) pre rest f r rows w):=by
 rw [prs_cons] at hL;obtain ⟨ad,e,hbl,hc0⟩:=hL.at_ (i:=0) rfl;subst e;obtain ⟨ad2,e,_,hc1⟩:=hL.at_ (i:=1) rfl;injection e with e
 subst e;rw [addr_add_zero] at hc0;rw [show ad.add 1=⟨ad.block,ad.off+1,none⟩ from by simp [Addr.add]] at hc1;obtain ⟨u0,hu0⟩:∃ u0,ws[s]? = some u0:=by obtain ⟨v,h,_⟩:=hW.2 s (by omega);exact ⟨v,h⟩
 have hcs:∀ w':World,Blk w' p 170 (r :: (ws ++ rows))→w'.cell? ⟨p,1+s,none⟩=some u0:=fun _ h=>by
  rw [h.cell,Nat.add_comm,List.getElem?_cons_succ,List.getElem?_append_left (by rw [hW.1];omega)];exact hu0
 have hcp:=hcs w hB;have hfp:=hB.free (1+s);have HCS:=Lib.hid (And.intro hcs hu0);have HB:=Lib.hid hB;have HW:=Lib.hid hW;have HR:=Lib.hid (hL.drop 2);have HBT:=Lib.hid hb;have HNB:=Lib.hid hnb;have HN:=Lib.hid hn;have hs0:(0:Int)≤(s:Int):=by omega
 have hs1:(s:Int) < 257:=by omega
 have hn1:1≤nL:=by omega
 have hn2:0 < nL:=by omega
 have hn3:(0:Int) < (nL:Int):=by omega
 rw [hnb] at hc1;have hbp:ad.block ∉ [p]:=by simp only [List.mem_singleton];omega
 have HBP:=Lib.hid hbp;clear hL hcs hB hW hb hnb hn hu0 hbp
 go_enter Tryz.func114,Tryz.ntmps114
 go_wp2_with fail
 go_region_law
  (first
   | (go_simp
      go_at_call 153
      go_must (refine (clonet_any Ab nb cb w.heap.size (pre.map .bool) _ (HBT.out.kp0 (show Kp [] w _ from by first | exact Kp.refl _ _ | exact (Kp.refl _ _).drew)) (by rw [List.length_map];exact HNB.out) (by omega) (oc_bools _) (fun e=>by
       have h9:=HBT.out;rw [e] at h9;have:=h9.none_nil;have h8:=HNB.out;rw [this] at h8
       simp at h8
       omega)).mono ?_)
      rintro e w2 ⟨A2,c2,rfl,ho2,hk2'⟩;have hk2:Kp [] w w2:=(show Kp [] w _ from by first | exact Kp.refl _ _ | exact (Kp.refl _ _).drew).trans hk2';have hB2:=HB.out.kp0 hk2;have hcp2:=HCS.out.1 w2 hB2;have hfp2:=hB2.free (1+s);have hc02:=hk2.cell hc0 (by simp);have hc12:=hk2.cell hc1 (by simp);have HO2:=Lib.hid (show w2.ownsRow w.heap.size 4 1 (.slice A2 nb c2) nb (pre.map .bool) from ho2);have HK2:=Lib.hid hk2
      clear ho2 hk2' hk2 hB2))
 all_goals
  have hB3:=(HB.out.kp0 HK2.out).set_ (1+s) (.slice A2 nb c2);rw [code_set (by rw [HW.out.1];omega)] at hB3;obtain ⟨w3,hw3⟩:∃ w3,w3=w2.setCell ⟨p,1+s,none⟩ (.slice A2 nb c2):=⟨_,rfl⟩;have hk23:Kp [p] w2 w3:=by rw [hw3];exact (Kp.refl _ _).setCell (.inl (by simp)) _
  rw [← hw3] at hB3 ⊢;have HB3:=Lib.hid hB3;have HK3:=Lib.hid (HK2.out.nil.trans hk23)
  obtain ⟨ad2,rfl⟩:∃ ad2,A2=some ad2:=by
   obtain ⟨_,_,hv,_,_,hA,_⟩:=own_form HO2.out;injection hv with e1 e2 e3
   subst e1
   cases A2 with
   | none=>have:=(hA rfl).1;omega
   | some a=>exact ⟨a,rfl⟩
  have hfr:w.heap.size≤ad2.block∧ad2.block < w2.heap.size∧nb≤c2:=by
   obtain ⟨_,_,hv,hcc,_,_,hA⟩:=own_form HO2.out;injection hv with e1 e2 e3
   subst e1 e3;have:=hA ad2 rfl;exact ⟨this.2.2.1,this.2.2.2,hcc⟩
  have hpw:p < w.heap.size:=HB.out.lt
  have HW3:=Lib.hid (show WordsM w3 P w3.heap.size (updL f ((CT.leaf s).al pre)) (ws.set s (.slice (some ad2) nb c2)) from by
   have h1:=((HW.out.kp HK2.out (by simp)).mono (fun _ _ h=>h) HK2.out.size);have hr2:=own_rd HO2.out;have h2:WordV w2 P w2.heap.size (some pre) (.slice (some ad2) nb c2):=⟨ad2,c2,by rw [HNB.out],by rw [HNB.out];exact hfr.2.2,hPn _ hfr.1,hfr.2.1,hr2⟩;have h3:=h1.put (s:=s) h2
   exact (h3.kp hk23 (fun g hg=>by simp only [List.mem_singleton] at hg;subst hg;exact .inl hPp)).mono (fun _ _ h=>h) hk23.size)
  have HR3:=Lib.hid (HR.out.kp_ne HK3.out (fun a ha=>by injection ha with ha;subst ha;rw [addr_add_block];exact HBP.out));have hc03:=HK3.out.cell hc0 HBP.out;have hc13:=HK3.out.cell hc1 HBP.out;clear hw3 hk23 hB3 HB HW HR HBT HO2 HK2 HCS hfr hpw hcp hfp hc0 hc1;have hn4:(1:Int)≤(nL:Int):=by omega
  have hc4:(1:Int)≤(cL:Int):=by omega
  have hnc:(nL:Int)≤(cL:Int):=by omega
  go_wp2_with fail;refine wp_region_facts (by kernel_rfl) 62 [6,7,28,29,30,31,32,33,34,35] [[],[28],[29],[30],[31],[32],[],[34],[33],[35]] (by kernel_rfl) (by kernel_rfl) rfl (factOf [(28,.eq (.slice (some ad) nL cL)),(29,.eq (.pointer (some ad))),(30,.eq (.pointer (some ad))),(31,.eq (.int .i64 (s:Int))),(32,.eq (.agg #[.pointer none,.pointer none,.int .i64 (s:Int),.bool true])),(33,SFact.node w.heap.size [.pointer none,.pointer none,.int .i64 (s:Int),.bool true]),(34,.eq (.slice (some ad) nL cL)),(35,SFact.rest p (nL - 1) (cL - 1) (prs rest)),(6,SFact.node w.heap.size [.pointer none,.pointer none,.int .i64 (s:Int),.bool true]),(7,SFact.rest p (nL - 1) (cL - 1) (prs rest))]) (factOf_stable _) _ (fun x=>by simp only [fillL,Nat.reduceAdd,Nat.reduceEqDiff,↓reduceIte];rfl) ?_ ?_
  ·refine ⟨?_,?_,?_,?_,?_,?_,?_,?_,?_,?_,trivial⟩
   ·intro fx w' fa hk hd ev;have e1:fa.tmps[1]?.getD undef=.slice (some ad) nL cL:=ev.old 1 rfl;refine stepF_un rfl (fun K hK=>?_);exact stepF_val _ hK (run_move rfl e1 _) rfl
   ·intro fx w' fa hk hd ev;have e28:=(ev.new 28 rfl).trans (show fx 28=.slice (some ad) nL cL from hd.1);refine stepF_un rfl (fun K hK=>?_);go_simp;exact hK _ _ rfl (Kp.refl _ _)
   ·intro fx w' fa hk hd ev;have e29:=(ev.new 29 rfl).trans (show fx 29=.pointer (some ad) from hd.1);refine stepF_un rfl (fun K hK=>?_);go_simp;exact hK _ _ rfl (Kp.refl _ _)
   ·intro fx w' fa hk hd ev;have e30:=(ev.new 30 rfl).trans (show fx 30=.pointer (some ad) from hd.1);refine stepF_un rfl (fun K hK=>?_);have q9:=hk.cell hc03 (by simp);go_simp;exact hK _ _ rfl (Kp.refl _ _)
   ·intro fx w' fa hk hd ev;have e31:=(ev.new 31 rfl).trans (show fx 31=.int .i64 (s:Int) from hd.1);refine stepF_un rfl (fun K hK=>?_);go_simp;exact hK _ _ rfl (Kp.refl _ _)
   ·intro fx w' fa hk hd ev;have e32:=(ev.new 32 rfl).trans (show fx 32=.agg #[.pointer none,.pointer none,.int .i64 (s:Int),.bool true] from hd.1);refine stepF_un rfl (fun K hK=>?_);go_simp;exact hK _ _ ⟨_,rfl,Nat.le_trans HK3.out.size hk.size,Blk.new _ _ _⟩ ((Kp.refl _ _).alloc _)
   ·intro fx w' fa hk hd ev;have e1:fa.tmps[1]?.getD undef=.slice (some ad) nL cL:=ev.old 1 rfl;refine stepF_un rfl (fun K hK=>?_);exact stepF_val _ hK (run_move rfl e1 _) rfl
   ·intro fx w' fa hk hd ev;have e34:=(ev.new 34 rfl).trans (show fx 34=.slice (some ad) nL cL from hd.1);refine stepF_un rfl (fun K hK=>?_);go_simp;exact hK _ _ ⟨_,rfl,rd_rest (HR3.out.kp0 hk) HN.out hc⟩ (Kp.refl _ _)
   ·intro fx w' fa hk hd ev;have h33:(SFact.node w.heap.size [.pointer none,.pointer none,.int .i64 (s:Int),.bool true]:SFact).p (fx 33) w':=hd.1
    skip
    refine stepF_un rfl (fun K hK=>?_);exact stepF_val _ hK (run_assign rfl (ev.new 33 rfl) _) h33
   ·intro fx w' fa hk hd ev;have h35:(SFact.rest p (nL - 1) (cL - 1) (prs rest):SFact).p (fx 35) w':=hd.1
    skip
    refine stepF_un rfl (fun K hK=>?_);exact stepF_val _ hK (run_assign rfl (ev.new 35 rfl) _) h35
  ·intro fx w' hk hd;have h6:(SFact.node w.heap.size [.pointer none,.pointer none,.int .i64 (s:Int),.bool true]:SFact).p (fx 6) w':=hd.1;have h7:(SFact.rest p (nL - 1) (cL - 1) (prs rest):SFact).p (fx 7) w':=hd.2.1;obtain ⟨gn,e6,hgn,hbn⟩:=h6;obtain ⟨A7,e7,hr7⟩:=h7;rw [e6,e7]
   have HF:=Lib.hid (show GrowP p P (.leaf s) pre rest f r rows w (.returned (.tuple #[.pointer (some ⟨gn,0,none⟩),.slice A7 (nL - 1) (cL - 1)])) w' from
    ⟨_,A7,nL - 1,cL - 1,_,rfl,HB3.out.kp0 hk,(HW3.out.kp hk (by simp)).mono (fun _ _ h=>h) hk.size,⟨gn,rfl,hgn,hbn.lt,hbn⟩,hr7,by have:=HN.out;omega,by omega,HK3.out.trans hk.nil⟩)
   clear hk hd hbn hr7 HB3 HW3 HK3 HR3;go_simp;go_wp2_with fail;go_ret2;exact HF.out
theorem NodeM.ptr {w:World} {lo hi:Nat} {T:CT} {v:Value} (h:NodeM w lo hi T v):∃ q,v=.pointer q:=by
 cases T with
 | nil=>exact ⟨_,h⟩
 | leaf s=>obtain ⟨g,h,_⟩:=h;exact ⟨_,h⟩
 | node a b=>obtain ⟨g,_,_,h,_⟩:=h;exact ⟨_,h⟩
def GrowH (T:CT):Prop:=∀ (p nL cL nb cb:Nat) (AL Ab:Option Addr) (pre:List Bool) (rest:List (Nat × Nat)) (f:Nat→Option (List Bool)) (r:Value) (ws rows:List Value) (P:Nat→Prop) (w:World),Blk w p 170 (r :: (ws ++ rows))→WordsM w P w.heap.size f ws→¬ P p→(∀ g,w.heap.size≤g→P g) →
  Rd w p AL (prs (slT T pre ++ rest))→(slT T pre ++ rest).length=nL→nL≤cL→nL≤1000→Rd w w.heap.size Ab (pre.map .bool)→(∀ ad,Ab=some ad→ad.block ≠ p)→pre.length=nb→1≤nb→(∀ x ∈ T.al pre,x.1≤256∧x.2.length≤256) →
  Calls Tryz.prog 114 #[.pointer (some ⟨p,0,none⟩),.slice AL nL cL,.slice Ab nb cb] w (GrowP p P T pre rest f r rows w)
theorem growH_leaf (s:Nat):GrowH (.leaf s):=fun p nL cL nb cb AL Ab pre rest f r ws rows P w hB hW hPp hPn hL hn hc _ hb _ hnb h0 hx=>by
 have h1:=hx (s,pre) (by simp [CT.al]);simp only at h1
 exact grow_leaf p s nL cL nb cb AL Ab pre rest f r ws rows w hB P hW hPp hPn hL (by have h2:(((s,pre.length) :: rest).length)=nL:=hn;simpa using h2) hc hb hnb h0 (by omega) h1.1
def gL (a b:CT) (pre:List Bool):Nat→List (Nat × List Bool)
 | 0=>[]
 | 1=>a.al (pre ++ [false])
 | _=>a.al (pre ++ [false]) ++ b.al (pre ++ [true])
def gR (a b:CT) (pre:List Bool) (rest:List (Nat × Nat)):Nat→List (Nat × Nat)
 | 0=>slT a (pre ++ [false]) ++ (slT b (pre ++ [true]) ++ rest)
 | 1=>slT b (pre ++ [true]) ++ rest
 | _=>rest
theorem grow_node (a b:CT) (iha:GrowH a) (ihb:GrowH b) (hfa:a.Full) (p nL cL nb cb:Nat) (AL Ab:Option Addr) (pre:List Bool) (rest:List (Nat × Nat)) (f:Nat→Option (List Bool)) (r:Value) (ws rows:List Value) (P:Nat→Prop) (w:World) (hB:Blk w p 170 (r :: (ws ++ rows))) (hW:WordsM w P w.heap.size f ws) (hPp:¬ P p) (hPn:∀ g,w.heap.size≤g→P g)
  (hL:Rd w p AL (prs (slT (.node a b) pre ++ rest))) (hn:(slT (.node a b) pre ++ rest).length=nL) (hc:nL≤cL) (hn1:nL≤1000) (hb:Rd w w.heap.size Ab (pre.map .bool)) (hAp:∀ ad,Ab=some ad→ad.block ≠ p) (hnb:pre.length=nb) (hx:∀ x ∈ (CT.node a b).al pre,x.1≤256∧x.2.length≤256) :
  Calls Tryz.prog 114 #[.pointer (some ⟨p,0,none⟩),.slice AL nL cL,.slice Ab nb cb] w (GrowP p P (.node a b) pre rest f r rows w):=by
 have hsl:slT (.node a b) pre ++ rest=gR a b pre rest 0:=by unfold slT gR slT;rw [CT.al,List.map_append,List.append_assoc];rfl
 rw [hsl] at hL hn
 obtain ⟨s0,k0,tl,hhd⟩:∃ s0 k0 tl,gR a b pre rest 0=(s0,nb+1+k0) :: tl:=by
  obtain ⟨s,k,t,e⟩:=al_first hfa (pre ++ [false]);refine ⟨s,k,t.map (fun x=>(x.1,x.2.length)) ++ (slT b (pre ++ [true]) ++ rest),?_⟩;unfold gR;simp only
  unfold slT;rw [e]
  simp [hnb]
  omega
 have hnb255:nb+1≤256:=by
  obtain ⟨s,k,t,e⟩:=al_first hfa (pre ++ [false]);have:=(hx (s,pre ++ [false] ++ List.replicate k false) (by rw [CT.al,e];simp)).2
  simp at this
  omega
 have hL':=hL;rw [hhd,prs_cons] at hL';obtain ⟨ad,e,hbl,hc0⟩:=hL'.at_ (i:=0) rfl;subst e;obtain ⟨ad2,e,_,hc1⟩:=hL'.at_ (i:=1) rfl;injection e with e
 subst e;rw [show ad.add 1=⟨ad.block,ad.off+1,none⟩ from by simp [Addr.add]] at hc1;have hn2:0 < nL:=by rw [← hn,hhd];simp
 have hn3:(0:Int) < (nL:Int):=by omega
 have hne:(((nb+1+k0:Nat):Int) == (nb:Int))=false:=by simp;omega
 obtain ⟨q0,hq0⟩:∃ q0,q0=nb+1+k0:=⟨_,rfl⟩;rw [← hq0] at hne hc1;clear hq0 hL' hhd hc0 hsl;have HB:=Lib.hid hB;have HW:=Lib.hid hW;have HR:=Lib.hid hL;have HBT:=Lib.hid hb;have HNB:=Lib.hid hnb;have HN:=Lib.hid hn;have HX:=Lib.hid hx;have HPP:=Lib.hid hPp;have HPN:=Lib.hid hPn;have HAP:=Lib.hid hAp;have hpw:=hB.lt;clear hL hB hW hb hnb hn hx hPp hPn hAp;obtain ⟨ib,hbi,hbz0,hbz1,hbz2⟩:=info_parts Tryz.info_abool;have i0:∀ w,(Instr.index 227 (.agg #[.bool false,.bool true]) (.int .i64 0)).run Tryz.prog w=.ok (.bool false) w:=fun _=>by kernel_rfl
 have i1:∀ w,(Instr.index 227 (.agg #[.bool false,.bool true]) (.int .i64 1)).run Tryz.prog w=.ok (.bool true) w:=fun _=>by kernel_rfl
 obtain ⟨gn,hgn⟩:∃ gn,gn=w.heap.size:=⟨_,rfl⟩;obtain ⟨w1,hw1⟩:∃ w1,w1=w.alloc (.cells #[.pointer none,.pointer none,.int .i64 0,.bool false] 175):=⟨_,rfl⟩;have hk1:Kp [] w w1:=by rw [hw1];exact (Kp.refl _ _).alloc _
 have HG1:=Lib.hid (show Blk w1 gn 175 [.pointer none,.pointer none,.int .i64 0,.bool false] from by rw [hw1,hgn];exact Blk.new w _ [.pointer none,.pointer none,.int .i64 0,.bool false]);have hgp:gn ≠ p:=by omega
 have HB1:=Lib.hid (HB.out.kp0 hk1);have HW1:=Lib.hid (show WordsM w1 (fun g=>P g∧g ≠ gn) w1.heap.size (updL f (gL a b pre 0)) ws from (HW.out.kp hk1 (by simp)).mono (fun g hg h=>⟨h,by omega⟩) hk1.size);have HR1:=Lib.hid (HR.out.kp0 hk1);have HK1:=Lib.hid (show Kp [p] w w1 from hk1.nil)
 go_enter Tryz.func114,Tryz.ntmps114
 go_wp2_with fail;rw [← hw1,← hgn];have HGN:=Lib.hid hgn;have hgp':p ≠ gn:=Ne.symm hgp;clear hw1 hgn hk1 HB HW HR
 go_loopw [1,39] (fun y x wr=>∃ (k n c:Nat) (A:Option Addr) (ws':List Value) (va vb:Value),x=.int .i64 (k:Int)∧y=.slice A n c∧k≤2∧n≤c∧n≤1000∧Hid (Blk wr p 170 (r :: (ws' ++ rows)))∧Hid (WordsM wr (fun g=>P g∧g ≠ gn) wr.heap.size (updL f (gL a b pre k)) ws')∧Hid (Blk wr gn 175 [va,vb,.int .i64 0,.bool false])∧Hid ((0 < k→NodeM wr (gn+1) wr.heap.size a va)∧(1 < k→NodeM wr (gn+1) wr.heap.size b vb))∧Hid (Rd wr p A (prs (gR a b pre rest k)))∧Hid ((gR a b pre rest k).length=n)∧Hid (gn < wr.heap.size∧Kp [p] w wr)) (fun _ x _=>2 - (intOf x).toNat)
 case atStart=>exact ⟨0,nL,cL,some ad,ws,_,_,rfl,rfl,by omega,hc,hn1,HB1,HW1,HG1,Lib.hid ⟨fun h=>by omega,fun h=>by omega⟩,HR1,HN,Lib.hid ⟨HG1.out.lt,HK1.out⟩⟩
 case round =>
  clear HB1 HW1 HG1 HR1 HK1 HN;obtain ⟨k,n,c,A,ws',va,vb,rfl,rfl,hk,hnc,hn1k,HB,HW,HG,HNM,HR,HN,HK⟩:=hrel;rcases (show k=0 ∨ k=1 ∨ k=2 by omega) with rfl | rfl | rfl
  ·rw [show ((0:Nat):Int)=0 from rfl];go_wp2_with fail;have hpr:=HB.out.lt;have hsz:=HK.out.1
   go_region_law
    (first
     | (go_simp
        go_at_call 153
        refine (clonet_any Ab nb cb w.heap.size (pre.map .bool) _ ((HBT.out.kp_ne HK.out.2 (fun a ha hm=>HAP.out a ha (List.mem_singleton.1 hm))).kp0 (show Kp [] wr _ from by first | exact (Kp.refl _ _).drew | exact (Kp.refl _ _).drew.alloc _ | exact ((Kp.refl _ _).alloc _).drew | exact Kp.refl _ _)) (by rw [List.length_map];exact HNB.out) (by omega) (oc_bools _) (fun e=>by
         have h9:=HBT.out;rw [e] at h9;rw [← HNB.out,h9.none_nil]
         rfl)).mono ?_
        rintro e w2 ⟨A2,c2,rfl,ho2,hk2'⟩;have hk2:Kp [] wr w2:=(show Kp [] wr _ from by first | exact (Kp.refl _ _).drew | exact (Kp.refl _ _).drew.alloc _ | exact ((Kp.refl _ _).alloc _).drew | exact Kp.refl _ _).trans hk2';have HKX:=Lib.hid hk2';have HO2:=Lib.hid (show w2.ownsRow wr.heap.size 4 1 (.slice A2 nb c2) nb (pre.map .bool) from own_base ho2 (by first | exact Nat.le_refl _ | simp));have HK2:=Lib.hid hk2
        clear ho2 hk2' hk2)
     | ((refine step_append_rd rfl (.tmp 49) (.tmp 51) 80 rfl wr.heap.size 4 ib (.bool false) 1 1 Tryz.underlying80 hbi hbz0 hbz1 hbz2 rfl (by decide) (.slice A2 nb c2) nb (pre.map .bool) (by rfl) (own_kp0 HO2.out ((Kp.refl [] w2).alloc _)) (w2.heap.size+1) (some ⟨w2.heap.size,0,none⟩) 1 1 [.bool false] (by rfl) (by rfl) (Rd.new w2 #[.bool false] 4 (0,0)) (by intro u hu;simp at hu;subst hu;rfl) (by unfold maxLen;omega) (by omega) (Nat.le_trans HK2.out.size (by simp)) ?_)
        intro v3 w3 hown3 hgrow3 hat3;obtain ⟨A3,c3,rfl,_,_,_,hA3⟩:=own_form hown3;have HO3:=Lib.hid (show Rd w3 w3.heap.size A3 ((pre ++ [false]).map .bool) from by rw [List.map_append];exact own_rd hown3);have HA3:=Lib.hid (show ∀ ad,A3=some ad→ad.block ≠ p from fun ad h=>by have:=(hA3 ad h).2.2.1;omega);have HK3:=Lib.hid (show Kp [] wr w3 from (HK2.out.alloc _).trans' ((Kp.refl _ _).grown hgrow3 (fun x hx=>.inl (mem_ownL.2 hx))) (fun x hx=>.inr (own_ge HO2.out (mem_ownL.1 hx)).1))
        clear hown3 hgrow3 hat3 hA3 HKX HO2 HK2)
     | ((refine step_append_rd rfl (.tmp 49) (.tmp 51) 80 rfl wr.heap.size 4 ib (.bool false) 1 1 Tryz.underlying80 hbi hbz0 hbz1 hbz2 rfl (by decide) (.slice A2 nb c2) nb (pre.map .bool) (by rfl) HO2.out (wr.heap.size+1) (some ⟨wr.heap.size,0,none⟩) 1 1 [.bool false] (by rfl) (by rfl) (show Rd w2 _ _ _ from (Rd.new wr.drew #[.bool false] 4 (0,0)).kp0 HKX.out) (by intro u hu;simp at hu;subst hu;rfl) (by unfold maxLen;omega) (by omega) HK2.out.size ?_)
        intro v3 w3 hown3 hgrow3 hat3;obtain ⟨A3,c3,rfl,_,_,_,hA3⟩:=own_form hown3;have HO3:=Lib.hid (show Rd w3 w3.heap.size A3 ((pre ++ [false]).map .bool) from by rw [List.map_append];exact own_rd hown3);have HA3:=Lib.hid (show ∀ ad,A3=some ad→ad.block ≠ p from fun ad h=>by have:=(hA3 ad h).2.2.1;omega);have HK3:=Lib.hid (show Kp [] wr w3 from HK2.out.trans' ((Kp.refl _ _).grown hgrow3 (fun x hx=>.inl (mem_ownL.2 hx))) (fun x hx=>.inr (own_ge HO2.out (mem_ownL.1 hx)).1))
        clear hown3 hgrow3 hat3 hA3 HKX HO2 HK2)
     | (go_simp
        go_at_call 114
        refine (iha p n c (nb+1) c3 A A3 (pre ++ [false]) (slT b (pre ++ [true]) ++ rest) (updL f (gL a b pre 0)) r ws' rows (fun g=>P g∧g ≠ gn) w3 (HB.out.kp0 HK3.out) ((HW.out.kp HK3.out (by simp)).mono (fun _ _ h=>h) HK3.out.size) (fun h=>HPP.out h.1) (fun g hg=>⟨HPN.out g (by have:=HGN.out;have:=HK3.out.size;omega),by have:=HK3.out.size;omega⟩) (HR.out.kp0 HK3.out) HN.out hnc hn1k HO3.out HA3.out (by rw [List.length_append,HNB.out];rfl) (by omega) (fun x hx=>HX.out x (by rw [CT.al];first | exact List.mem_append_left _ hx | exact List.mem_append_right _ hx))).mono ?_;rintro e w4 ⟨v,A4,n4,c4,ws4,rfl,hB4,hW4,hN4,hR4,hn4,hc4,hk4⟩;obtain ⟨q,rfl⟩:=hN4.ptr;have hG4:=(HG.out.kp0 HK3.out).kp hk4 (fun h=>hgp (List.mem_singleton.1 h));have hcg4:w4.cell? ⟨gn,0,none⟩=some va:=by rw [hG4.cell];rfl
        have hfg4:=hG4.free 0;have HX4:=Lib.hid (And.intro hB4 (And.intro hW4 (And.intro hN4 (And.intro hR4 (And.intro hG4 hk4)))));have HN4:=Lib.hid hn4
        clear hB4 hW4 hN4 hR4 hG4 hk4 hn4))
   all_goals
    obtain ⟨hB4,hW4,hN4,hR4,hG4,hk4⟩:=HX4.out;obtain ⟨w5,hw5⟩:∃ w5,w5=w4.setCell ⟨gn,0,none⟩ (.pointer q):=⟨_,rfl⟩;have hk5:Kp [gn] w4 w5:=by rw [hw5];exact (Kp.refl _ _).setCell (.inl (by simp)) _
    have hG5:=hG4.set_ 0 (.pointer q);rw [← hw5] at hG5 ⊢;have HG5:=Lib.hid (show Blk w5 gn 175 [.pointer q,vb,.int .i64 0,.bool false] from hG5);have hgp5:p ∉ [gn]:=fun h=>hgp' (List.mem_singleton.1 h)
    have HB5:=Lib.hid (hB4.kp hk5 hgp5);have hsz5:=hk5.size;have hsz4:=hk4.size;have hsz3:=HK3.out.size
    have HW5:=Lib.hid (show WordsM w5 (fun g=>P g∧g ≠ gn) w5.heap.size (updL f (gL a b pre (0+1))) ws4 from by
     have h1:=(hW4.kp hk5 (fun g hg=>.inl (fun h=>h.2 (List.mem_singleton.1 hg)))).mono (fun _ _ h=>h) hsz5
     exact h1)
    have hpgn:p < gn:=by have:=HGN.out;omega
    have hS1:∀ g ∈ [p],g < gn+1:=fun g hg=>by rw [List.mem_singleton.1 hg];omega
    have hS2:∀ g ∈ [gn],g < gn+1:=fun g hg=>by rw [List.mem_singleton.1 hg];omega
    have hNN:NodeM w5 (gn+1) w5.heap.size a (.pointer q):=(hN4.kp hk5 (fun g hg=>.inl (by rw [List.mem_singleton.1 hg];omega))).mono (by omega) hsz5;have HNM5:=Lib.hid (show (0 < 0+1→NodeM w5 (gn+1) w5.heap.size a (.pointer q))∧(1 < 0+1→NodeM w5 (gn+1) w5.heap.size b (vb)) from ⟨fun _=>hNN,fun h=>by omega⟩);have HR5:=Lib.hid (hR4.kp hk5 (fun g hg=>by rw [List.mem_singleton.1 hg];omega));have HK5:=Lib.hid (show gn < w5.heap.size∧Kp [p] w w5 from ⟨by omega,(HK.out.2.trans HK3.out.nil).trans hk4 |>.trans' hk5 (fun g hg=>.inr (by rw [List.mem_singleton.1 hg,HGN.out];exact Nat.le_refl _))⟩)
    have hle:n4≤1000:=by
     have h1:n4≤n:=by
      rw [← HN4.out,← HN.out];exact Nat.le_trans (Nat.le_add_left _ (slT a (pre ++ [false])).length) (Nat.le_of_eq (List.length_append).symm)
     omega
    clear hw5 hG5 hB4 hW4 hN4 hR4 hG4 hk4 hk5 hS1 hS2 hNN hsz5 hsz4 hsz3 hgp5 HX4 HK3 HO3 HA3;go_simp;go_wp2_with fail;exact ⟨⟨0+1,n4,c4,A4,ws4,_,_,rfl,rfl,by omega,hc4,hle,HB5,HW5,HG5,HNM5,HR5,HN4,HK5⟩,by simp [intOf]⟩
  ·rw [show ((1:Nat):Int)=1 from rfl];go_wp2_with fail;have hpr:=HB.out.lt;have hsz:=HK.out.1
   go_region_law
    (first
     | (go_simp
        go_at_call 153
        refine (clonet_any Ab nb cb w.heap.size (pre.map .bool) _ ((HBT.out.kp_ne HK.out.2 (fun a ha hm=>HAP.out a ha (List.mem_singleton.1 hm))).kp0 (show Kp [] wr _ from by first | exact (Kp.refl _ _).drew | exact (Kp.refl _ _).drew.alloc _ | exact ((Kp.refl _ _).alloc _).drew | exact Kp.refl _ _)) (by rw [List.length_map];exact HNB.out) (by omega) (oc_bools _) (fun e=>by
         have h9:=HBT.out;rw [e] at h9;rw [← HNB.out,h9.none_nil]
         rfl)).mono ?_
        rintro e w2 ⟨A2,c2,rfl,ho2,hk2'⟩;have hk2:Kp [] wr w2:=(show Kp [] wr _ from by first | exact (Kp.refl _ _).drew | exact (Kp.refl _ _).drew.alloc _ | exact ((Kp.refl _ _).alloc _).drew | exact Kp.refl _ _).trans hk2';have HKX:=Lib.hid hk2';have HO2:=Lib.hid (show w2.ownsRow wr.heap.size 4 1 (.slice A2 nb c2) nb (pre.map .bool) from own_base ho2 (by first | exact Nat.le_refl _ | simp));have HK2:=Lib.hid hk2
        clear ho2 hk2' hk2)
     | ((refine step_append_rd rfl (.tmp 49) (.tmp 51) 80 rfl wr.heap.size 4 ib (.bool false) 1 1 Tryz.underlying80 hbi hbz0 hbz1 hbz2 rfl (by decide) (.slice A2 nb c2) nb (pre.map .bool) (by rfl) (own_kp0 HO2.out ((Kp.refl [] w2).alloc _)) (w2.heap.size+1) (some ⟨w2.heap.size,0,none⟩) 1 1 [.bool true] (by rfl) (by rfl) (Rd.new w2 #[.bool true] 4 (0,0)) (by intro u hu;simp at hu;subst hu;rfl) (by unfold maxLen;omega) (by omega) (Nat.le_trans HK2.out.size (by simp)) ?_)
        intro v3 w3 hown3 hgrow3 hat3;obtain ⟨A3,c3,rfl,_,_,_,hA3⟩:=own_form hown3;have HO3:=Lib.hid (show Rd w3 w3.heap.size A3 ((pre ++ [true]).map .bool) from by rw [List.map_append];exact own_rd hown3);have HA3:=Lib.hid (show ∀ ad,A3=some ad→ad.block ≠ p from fun ad h=>by have:=(hA3 ad h).2.2.1;omega);have HK3:=Lib.hid (show Kp [] wr w3 from (HK2.out.alloc _).trans' ((Kp.refl _ _).grown hgrow3 (fun x hx=>.inl (mem_ownL.2 hx))) (fun x hx=>.inr (own_ge HO2.out (mem_ownL.1 hx)).1))
        clear hown3 hgrow3 hat3 hA3 HKX HO2 HK2)
     | ((refine step_append_rd rfl (.tmp 49) (.tmp 51) 80 rfl wr.heap.size 4 ib (.bool false) 1 1 Tryz.underlying80 hbi hbz0 hbz1 hbz2 rfl (by decide) (.slice A2 nb c2) nb (pre.map .bool) (by rfl) HO2.out (wr.heap.size+1) (some ⟨wr.heap.size,0,none⟩) 1 1 [.bool true] (by rfl) (by rfl) (show Rd w2 _ _ _ from (Rd.new wr.drew #[.bool true] 4 (0,0)).kp0 HKX.out) (by intro u hu;simp at hu;subst hu;rfl) (by unfold maxLen;omega) (by omega) HK2.out.size ?_)
        intro v3 w3 hown3 hgrow3 hat3;obtain ⟨A3,c3,rfl,_,_,_,hA3⟩:=own_form hown3;have HO3:=Lib.hid (show Rd w3 w3.heap.size A3 ((pre ++ [true]).map .bool) from by rw [List.map_append];exact own_rd hown3);have HA3:=Lib.hid (show ∀ ad,A3=some ad→ad.block ≠ p from fun ad h=>by have:=(hA3 ad h).2.2.1;omega);have HK3:=Lib.hid (show Kp [] wr w3 from HK2.out.trans' ((Kp.refl _ _).grown hgrow3 (fun x hx=>.inl (mem_ownL.2 hx))) (fun x hx=>.inr (own_ge HO2.out (mem_ownL.1 hx)).1))
        clear hown3 hgrow3 hat3 hA3 HKX HO2 HK2)
     | (go_simp
        go_at_call 114
        refine (ihb p n c (nb+1) c3 A A3 (pre ++ [true]) rest (updL f (gL a b pre 1)) r ws' rows (fun g=>P g∧g ≠ gn) w3 (HB.out.kp0 HK3.out) ((HW.out.kp HK3.out (by simp)).mono (fun _ _ h=>h) HK3.out.size) (fun h=>HPP.out h.1) (fun g hg=>⟨HPN.out g (by have:=HGN.out;have:=HK3.out.size;omega),by have:=HK3.out.size;omega⟩) (HR.out.kp0 HK3.out) HN.out hnc hn1k HO3.out HA3.out (by rw [List.length_append,HNB.out];rfl) (by omega) (fun x hx=>HX.out x (by rw [CT.al];first | exact List.mem_append_left _ hx | exact List.mem_append_right _ hx))).mono ?_;rintro e w4 ⟨v,A4,n4,c4,ws4,rfl,hB4,hW4,hN4,hR4,hn4,hc4,hk4⟩;obtain ⟨q,rfl⟩:=hN4.ptr;have hG4:=(HG.out.kp0 HK3.out).kp hk4 (fun h=>hgp (List.mem_singleton.1 h));have hcg4:w4.cell? ⟨gn,1,none⟩=some vb:=by rw [hG4.cell];rfl
        have hfg4:=hG4.free 1;have HX4:=Lib.hid (And.intro hB4 (And.intro hW4 (And.intro hN4 (And.intro hR4 (And.intro hG4 hk4)))));have HN4:=Lib.hid hn4
        clear hB4 hW4 hN4 hR4 hG4 hk4 hn4))
   all_goals
    obtain ⟨hB4,hW4,hN4,hR4,hG4,hk4⟩:=HX4.out;obtain ⟨w5,hw5⟩:∃ w5,w5=w4.setCell ⟨gn,1,none⟩ (.pointer q):=⟨_,rfl⟩;have hk5:Kp [gn] w4 w5:=by rw [hw5];exact (Kp.refl _ _).setCell (.inl (by simp)) _
    have hG5:=hG4.set_ 1 (.pointer q);rw [← hw5] at hG5 ⊢;have HG5:=Lib.hid (show Blk w5 gn 175 [va,.pointer q,.int .i64 0,.bool false] from hG5);have hgp5:p ∉ [gn]:=fun h=>hgp' (List.mem_singleton.1 h)
    have HB5:=Lib.hid (hB4.kp hk5 hgp5);have hsz5:=hk5.size;have hsz4:=hk4.size;have hsz3:=HK3.out.size
    have HW5:=Lib.hid (show WordsM w5 (fun g=>P g∧g ≠ gn) w5.heap.size (updL f (gL a b pre (1+1))) ws4 from by
     have h1:=(hW4.kp hk5 (fun g hg=>.inl (fun h=>h.2 (List.mem_singleton.1 hg)))).mono (fun _ _ h=>h) hsz5
     rwa [← updL_app] at h1)
    have hpgn:p < gn:=by have:=HGN.out;omega
    have hS1:∀ g ∈ [p],g < gn+1:=fun g hg=>by rw [List.mem_singleton.1 hg];omega
    have hS2:∀ g ∈ [gn],g < gn+1:=fun g hg=>by rw [List.mem_singleton.1 hg];omega
    have hNN:NodeM w5 (gn+1) w5.heap.size b (.pointer q):=(hN4.kp hk5 (fun g hg=>.inl (by rw [List.mem_singleton.1 hg];omega))).mono (by omega) hsz5;have HNM5:=Lib.hid (show (0 < 1+1→NodeM w5 (gn+1) w5.heap.size a (va))∧(1 < 1+1→NodeM w5 (gn+1) w5.heap.size b (.pointer q)) from ⟨fun _=>((((HNM.out.1 (by omega)).kp HK3.out (by simp)).kp hk4 (fun g hg=>.inl (hS1 g hg))).kp hk5 (fun g hg=>.inl (hS2 g hg))).mono (Nat.le_refl _) (by omega),fun _=>hNN⟩);have HR5:=Lib.hid (hR4.kp hk5 (fun g hg=>by rw [List.mem_singleton.1 hg];omega));have HK5:=Lib.hid (show gn < w5.heap.size∧Kp [p] w w5 from ⟨by omega,(HK.out.2.trans HK3.out.nil).trans hk4 |>.trans' hk5 (fun g hg=>.inr (by rw [List.mem_singleton.1 hg,HGN.out];exact Nat.le_refl _))⟩)
    have hle:n4≤1000:=by
     have h1:n4≤n:=by
      rw [← HN4.out,← HN.out];exact Nat.le_trans (Nat.le_add_left _ (slT b (pre ++ [true])).length) (Nat.le_of_eq (List.length_append).symm)
     omega
    clear hw5 hG5 hB4 hW4 hN4 hR4 hG4 hk4 hk5 hS1 hS2 hNN hsz5 hsz4 hsz3 hgp5 HX4 HK3 HO3 HA3;go_simp;go_wp2_with fail;exact ⟨⟨1+1,n4,c4,A4,ws4,_,_,rfl,rfl,by omega,hc4,hle,HB5,HW5,HG5,HNM5,HR5,HN4,HK5⟩,by simp [intOf]⟩
  ·rw [show ((2:Nat):Int)=2 from rfl]
   have HF:=Lib.hid (show GrowP p P (.node a b) pre rest f r rows w (.returned (.tuple #[.pointer (some ⟨gn,0,none⟩),.slice A n c])) wr from
    ⟨_,A,n,c,ws',rfl,HB.out,HW.out.mono (fun _ _ h=>h.1) (Nat.le_refl _),⟨gn,va,vb,rfl,by rw [HGN.out];exact Nat.le_refl _,HK.out.1,HG.out,(HNM.out.1 (by omega)).mono (by have:=HGN.out;omega) (Nat.le_refl _),(HNM.out.2 (by omega)).mono (by have:=HGN.out;omega) (Nat.le_refl _)⟩,HR.out,HN.out,hnc,HK.out.2⟩)
   clear HB HW HG HNM HR HN HK;go_wp2_with fail;go_ret2;exact HF.out
theorem growH_all:∀ {T:CT},T.Full→GrowH T
 | .nil,h=>h.elim
 | .leaf s,_=>growH_leaf s
 | .node a b,h=>fun p nL cL nb cb AL Ab pre rest f r ws rows P w hB hW hPp hPn hL hn hc hn1 hb hAp hnb _ hx =>
   grow_node a b (growH_all h.1) (growH_all h.2) h.1 p nL cL nb cb AL Ab pre rest f r ws rows P w hB hW hPp hPn hL hn hc hn1 hb hAp hnb hx
end Go.Proofs.YtanacapkfllbnaaGreatDoor
