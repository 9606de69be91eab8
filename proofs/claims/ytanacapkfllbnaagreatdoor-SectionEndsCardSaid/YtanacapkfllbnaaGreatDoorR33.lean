/-
  LAYER 3: the document's writer: digits, Put.
  CONDITIONS: as each says.
-/
import Derived.Test.YtanacapkfllbnaaGreatDoorR30
import Derived.Test.YtanacapkfllbnaaGreatDoorR02
import Derived.Test.YtanacapkfllbnaaGreatDoorR04
set_option maxRecDepth 100000
set_option maxHeartbeats 4000000
namespace Go.Proofs.YtanacapkfllbnaaGreatDoor
open Go.RowKit

def WrR (w:World) (S:List Nat) (p:Nat) (s:WS):Prop:=∃ (A:Option Addr) (c:Nat),Blk w p 141 [.slice A s.1.length c,.int .i64 s.2]∧w.ownsRow 0 4 1 (.slice A s.1.length c) s.1.length (s.1.map .bool)∧s.1.length≤16777216∧S=p :: ownL (.slice A s.1.length c)
theorem WrR.lt {w:World} {S:List Nat} {p:Nat} {s:WS} (h:WrR w S p s):∀ g ∈ S,g < w.heap.size:=by
 obtain ⟨A,c,h1,h2,_,rfl⟩:=h;intro x hx;simp only [List.mem_cons] at hx
 rcases hx with rfl | hx
 ·exact h1.lt
 ·exact (own_ge h2 (mem_ownL.1 hx)).2
theorem WrR.kp {w w':World} {S T:List Nat} {p:Nat} {s:WS} (h:WrR w S p s) (hk:Kp T w w') (hd:∀ g ∈ S,g ∉ T):WrR w' S p s:=by
 obtain ⟨A,c,h1,h2,h3,rfl⟩:=h;exact ⟨A,c,h1.kp hk (hd p (by simp)),own_kp h2 hk (fun x hx=>hd x (by simp [mem_ownL,hx])),h3,rfl⟩
theorem WrR.kp0 {w w':World} {S:List Nat} {p:Nat} {s:WS} (h:WrR w S p s) (hk:Kp [] w w'):WrR w' S p s:=h.kp hk (by simp)
def RPost (w w':World) (S:List Nat) (p:Nat) (s:WS):Prop:=∃ S',WrR w' S' p s∧Kp S w w'∧Grow w S S'
theorem RPost.refl {w:World} {S:List Nat} {p:Nat} {s:WS} (h:WrR w S p s):RPost w w S p s:=⟨S,h,Kp.refl _ _,Grow.refl _ _⟩
theorem WrR.err {w:World} {S:List Nat} {p:Nat} {L:List Bool} {E0:Int} (h:WrR w S p (L,E0)) (E:Int):RPost w (w.setCell ⟨p,1,none⟩ (.int .i64 E)) S p (L,E):=by
 obtain ⟨A,c,h1,h2,h3,hS⟩:=h;have hk:Kp [p] w (w.setCell ⟨p,1,none⟩ (.int .i64 E)):=(Kp.refl [p] w).setCell (.inl (by simp)) _;refine ⟨S,⟨A,c,h1.set_ 1 _,own_kp h2 hk (fun b hb hm=>?_),h3,hS⟩,hk.mono (by intro x hx;simp only [List.mem_singleton] at hx;subst hx;rw [hS];simp),Grow.refl _ _⟩;simp only [List.mem_singleton] at hm
 subst hm;obtain ⟨l,hB⟩:=own_blk_some h2 hb;exact absurd rfl (hB.ne h1 (by decide))
theorem WrR.cells {w:World} {S:List Nat} {p n:Nat} {L:List Bool} {E:Int} (h:WrR w S p (L,E)) (hn:L.length=n):n≤16777216∧w.cell? ⟨p,1,none⟩=some (.int .i64 E)∧(∀ i,w.frozen? ⟨p,i,none⟩=false)∧∃ A c,w.cell? ⟨p,0,none⟩=some (.slice A n c)∧Rd w w.heap.size A (L.map .bool):=by
 subst hn;obtain ⟨A,c,h1,h2,h3,hS⟩:=h;exact ⟨h3,by rw [h1.cell];rfl,h1.free,A,c,by rw [h1.cell];rfl,own_rd h2⟩
theorem rwput_any (S:List Nat) (p n m c B:Nat) (A:Option Addr) (l:List Bool) (s:WS) (w:World) (h:WrR w S p s) (hn:s.1.length=n) (hx:Rd w B A (l.map .bool)) (hl:l.length=m) (hm:m≤1000000000) :
  Calls Tryz.prog 93 #[.pointer (some ⟨p,0,none⟩),.slice A m c] w fun e w'=>e=.returned (.int .i64 (wPut s l).2)∧RPost w w' S p (wPut s l):=by
 obtain ⟨L,err⟩:=s;have HH:=Lib.hid h;obtain ⟨A0,c0,h1,h2,h3,hS⟩:=h;have hn':L.length=n:=hn;have h1':Blk w p 141 [.slice A0 n c0,.int .i64 err]:=by rw [← hn'];exact h1
 have h3':n≤16777216:=by rw [← hn'];exact h3
 have hc0:w.cell? ⟨p,0,none⟩=some (.slice A0 n c0):=by rw [h1'.cell];rfl
 have hc1:w.cell? ⟨p,1,none⟩=some (.int .i64 err):=by rw [h1'.cell];rfl
 have hf1:=h1'.free 1;have H1:=Lib.hid h1';have H2:=Lib.hid h2;have HS:=Lib.hid hS;have HX:=Lib.hid hx;clear hx;have HL:=Lib.hid hl;clear hl;have HN':=Lib.hid hn';clear hn';clear h1 h1' h2 h3 hS hn;by_cases he:err=0
 ·subst he;by_cases hbig:16777216 < n+m
  ·have HR:=Lib.hid (show wPut (L,0) l=(L,3) by unfold wPut;rw [if_neg (by simp),if_pos (by rw [HN'.out,HL.out];exact hbig)]);rw [HR.out]
   go_enter Tryz.func93,Tryz.ntmps93
   go_wp2_with fail;go_ret;exact ⟨rfl,HH.out.err 3⟩
  ·have HR:=Lib.hid (show wPut (L,0) l=(L ++ l,0) by unfold wPut;rw [if_neg (by simp),if_neg (by rw [HN'.out,HL.out];exact hbig)]);rw [HR.out];obtain ⟨i0,hi,hz0,hz1,hz2⟩:=info_parts Tryz.info_bool_;have hf0:=H1.out.free 0;have HO:=Lib.hid (show w.ownsRow 0 4 1 (.slice A0 n c0) n (L.map .bool) by have h:=H2.out;rw [HN'.out] at h;exact h)
   go_enter Tryz.func93,Tryz.ntmps93
   go_wp2_with (at_builtin;go_loud (refine wpList_append_rd rfl (.tmp 33) (.tmp 34) 80 rfl 0 4 i0 (.bool false) 1 1 Tryz.underlying80 hi hz0 hz1 hz2 rfl (by decide) (.slice A0 n c0) n _ rfl HO.out B A m c (l.map .bool) rfl (by rw [List.length_map,HL.out,Nat.mul_one]) HX.out (by intro u hu;obtain ⟨b,_,rfl⟩:=List.mem_map.1 hu;rfl) (by unfold maxLen;omega) (by omega) (Nat.zero_le _) ?_);intro v2 w2 hown2 hgrow2 hat2
                go_loud (obtain ⟨A2,c2,rfl,_⟩:=own_form hown2)
                go_loud (have hkg:Kp (ownL (.slice A0 n c0)) w w2:=(Kp.refl _ w).grown hgrow2 (fun b hb=>.inl (mem_ownL.2 hb)))
                have HP2:=Lib.hid (H1.out.kp hkg (fun hm=>by obtain ⟨q,hq⟩:=own_blk_some HO.out (mem_ownL.1 hm);exact absurd rfl (hq.ne H1.out (by decide))));have HK2:=Lib.hid hkg;have HO2:=Lib.hid hown2;have HA2:=Lib.hid hat2;have cf2:=HP2.out.free 0;have cp2:w2.cell? ⟨p,0,none⟩=some (.slice A0 n c0):=by rw [HP2.out.cell];rfl
                have cp1:w2.cell? ⟨p,1,none⟩=some (.int .i64 0):=by rw [HP2.out.cell];rfl
                clear hown2 hgrow2 hat2 hkg)
   go_ret
   have hpA:∀ b,(Value.slice A2 (n+m) c2).ownBlock=some b→b ≠ p:=fun b hb e=>by
    subst e;obtain ⟨q,hq⟩:=own_blk_some HO2.out hb;exact absurd rfl (hq.ne HP2.out (by decide))
   have hk3:Kp [p] w2 (w2.setCell ⟨p,0,none⟩ (.slice A2 (n+m) c2)):=(Kp.refl [p] w2).setCell (.inl (by simp)) _;have hln:(L ++ l).length=n+m:=by rw [List.length_append,HN'.out,HL.out]
   have hS:S=p :: ownL (.slice A0 n c0):=by have h:=HS.out;rw [HN'.out] at h;exact h
   refine ⟨rfl,p :: ownL (.slice A2 (n+m) c2),⟨A2,c2,?_,?_,?_,?_⟩,?_,?_⟩
   ·rw [hln];exact HP2.out.set_ 0 _
   ·rw [hln,List.map_append];exact own_kp HO2.out hk3 (fun b hb hm=>by simp only [List.mem_singleton] at hm;exact hpA b hb hm)
   ·rw [hln];omega
   ·rw [hln]
   ·rw [hS];exact (HK2.out.mono (fun x hx=>by simp [hx])).trans (hk3.mono (fun x hx=>by simp only [List.mem_singleton] at hx;subst hx;simp))
   ·intro x hx;simp only [List.mem_cons] at hx
    rcases hx with rfl | hx
    ·exact .inl (by rw [hS];simp)
    ·rw [mem_ownL] at hx;rcases HA2.out with h | h
     ·exact .inl (by rw [hS];exact List.mem_cons_of_mem _ (mem_ownL.2 (by rw [← h];exact hx)))
     ·rw [h] at hx;injection hx with hx
      exact .inr (Nat.le_of_eq hx)
 ·have HR:=Lib.hid (show wPut (L,err) l=(L,err) by unfold wPut;rw [if_pos he]);rw [HR.out];have hb:(err == 0)=false:=by simpa using he
  clear he
  go_enter Tryz.func93,Tryz.ntmps93
  go_wp2_with fail;go_ret;exact ⟨rfl,RPost.refl HH.out⟩
theorem dig_step {m x k:Nat} {b:Bool} (hk:k < m) (hb:(digL m x)[k]? = some b):(List.replicate (k+1) false ++ (digL m x).drop (k+1)).set k b=List.replicate k false ++ (digL m x).drop k:=by
 rw [List.set_append_left _ _ (by simp),List.replicate_succ',List.set_append_right _ _ (by simp)]
 have:(digL m x).drop k=b :: (digL m x).drop (k+1):=by
  rw [List.drop_eq_getElem_cons (by rw [digL_len];exact hk)];have h2:=List.getElem?_eq_getElem (l:=digL m x) (i:=k) (by rw [digL_len];exact hk);rw [hb] at h2;injection h2 with h2
  rw [← h2]
 rw [this]
 simp
theorem rdigits_any (m x:Nat) (w:World) (hm:m≤64) (hx:x≤9223372036854775807) :
  Calls Tryz.prog 143 #[.int .i64 (m:Int),.int .i64 (x:Int)] w fun e w'=>∃ g,e=.returned (.tuple #[.slice (some ⟨g,0,none⟩) m m,.bool (x / 2 ^ m == 0)])∧Blk w' g 4 ((digL m x).map .bool)∧w.heap.size≤g∧Kp [] w w':=by
 obtain ⟨i0,hi,hz0,hz1,hz2⟩:=info_parts Tryz.info_bool_;have hmk:=run_make_list (P:=Tryz.prog) 80 4 i0 (.bool false) Tryz.underlying80 hi hz0 hz1 rfl .i64 .i64 m (by rw [hz2];omega) (by omega);obtain ⟨Q,hQ⟩:∃ Q,Q=(x / 2 ^ m == 0):=⟨_,rfl⟩;rw [← hQ];have HQ:=Lib.hid hQ;clear hi hz0 hz1 hz2 hQ
 go_enter Tryz.func143,Tryz.ntmps143
 go_wp2_with fail;clear hmk;obtain ⟨g,hg⟩:∃ g,g=w.heap.size:=⟨_,rfl⟩;obtain ⟨w1,hw1⟩:∃ w1,w1=w.alloc (.cells (Array.replicate m (.bool false)) 4):=⟨_,rfl⟩
 have HB:=Lib.hid (show Blk w1 g 4 ((List.replicate m false).map .bool) by
  have h:=Blk.new w 4 (List.replicate m (.bool false));rw [hw1,hg,List.map_replicate]
  simpa using h)
 have HK:=Lib.hid (show Kp [] w w1 by rw [hw1];exact (Kp.refl [] w).alloc _);have HG:=Lib.hid (show w.heap.size≤g from Nat.le_of_eq hg.symm);rw [← hg];rw [← hw1];clear hg hw1
 go_loopw [1,7] (fun v u wr=>∃ (r y:Nat) (q:Int),u=.int .i64 q∧q+1=(r:Int)∧r≤m∧v=.int .i64 (y:Int)∧y≤9223372036854775807∧Hid (y=x / 2 ^ (m - r))∧Hid (Blk wr g 4 ((List.replicate r false ++ (digL m x).drop r).map .bool))∧Hid (Kp [] w wr)) (fun _ u _=>(intOf u+1).toNat)
 case atStart=>exact ⟨m,x,(m:Int) - 1,rfl,by omega,by omega,rfl,hx,Lib.hid (by simp),Lib.hid (by rw [List.drop_of_length_le (by rw [digL_len];exact Nat.le_refl _),List.append_nil];exact HB.out),HK⟩
 case round =>
  clear HB HK;obtain ⟨r,y,q,rfl,hq,hrm,rfl,hyb,HY,HB,HK⟩:=hrel;by_cases hlt:0 < r
  ·obtain ⟨k,rfl⟩:∃ k:Nat,q=(k:Int):=⟨q.toNat,by omega⟩;obtain rfl:r=k+1:=by omega
   clear hq;obtain ⟨b,hb⟩:∃ b,b=(y % 2 == 1):=⟨_,rfl⟩
   have hd:(digL m x)[k]? = some b:=by
    rw [digL_get (by omega),hb,HY.out,show m - 1 - k=m - (k+1) by omega]
   have HST:=Lib.hid (dig_step (by omega) hd);obtain ⟨e,he⟩:∃ e,e=y % 2:=⟨_,rfl⟩;obtain ⟨y2,hy2⟩:∃ y2,y2=y / 2:=⟨_,rfl⟩
   have hbe:((e:Int) == 1)=b:=by
    rw [hb,← he];rcases (show e=0 ∨ e=1 by omega) with h | h <;> rw [h] <;> rfl
   have hmod:(y:Int).tmod 2=(e:Int):=by rw [Int.tmod_eq_emod_of_nonneg (by omega)];omega
   have hwe:IntKind.i64.wrap (e:Int)=(e:Int):=by rw [IntKind.wrap_i64];omega
   have hdiv:(y:Int).tdiv 2=(y2:Int):=by rw [Int.tdiv_eq_ediv_of_nonneg (by omega)];omega
   have hwy:IntKind.i64.wrap (y2:Int)=(y2:Int):=by rw [IntKind.wrap_i64];omega
   have HY2:=Lib.hid (show y2=x / 2 ^ (m - k) by
    rw [hy2,HY.out,Nat.div_div_eq_div_mul,← Nat.pow_succ,show (m - (k+1)).succ=m - k by omega])
   have hy2b:y2≤9223372036854775807:=by omega
   have hk0:(0:Int)≤(k:Int):=by omega
   have hkm:(k:Int) < (m:Int):=by omega
   have hkb:k≤64:=by omega
   obtain ⟨u0,hu0⟩:∃ u0,((List.replicate (k+1) false ++ (digL m x).drop (k+1)).map Value.bool)[k]? = some u0:=⟨_,List.getElem?_eq_getElem (by simp;omega)⟩;have hcx:wr.cell? ⟨g,k,none⟩=some u0:=by rw [HB.out.cell];exact hu0
   have hcf:=HB.out.free k
   have HB2:=Lib.hid (show Blk (wr.setCell ⟨g,k,none⟩ (.bool b)) g 4 ((List.replicate k false ++ (digL m x).drop k).map .bool) by
    have h:=HB.out.set_ k (.bool b)
    rwa [← List.map_set,HST.out] at h)
   have HK2:=Lib.hid (show Kp [] w (wr.setCell ⟨g,k,none⟩ (.bool b)) from HK.out.trans' ((Kp.refl [g] wr).setCell (p:=⟨g,k,none⟩) (.inl (by simp)) _) (fun z hz=>by simp only [List.mem_singleton] at hz;subst hz;exact .inr HG.out));clear hb hd he hy2 hu0 HB HK;go_wp2_with fail;exact ⟨⟨k,y2,(k:Int) - 1,rfl,by omega,by omega,rfl,hy2b,HY2,HB2,HK2⟩,by simp [intOf]⟩
  ·obtain rfl:r=0:=by omega
   obtain rfl:q=-1:=by omega
   have hyq:((y:Int) == 0)=Q:=by
    rw [HQ.out,HY.out,Nat.sub_zero];by_cases h:x / 2 ^ m=0
    ·rw [h];rfl
    ·rw [beq_eq_false_iff_ne.2 h,beq_eq_false_iff_ne.2 (by omega)]
   clear hq;go_wp2_with fail;go_ret2;exact ⟨g,rfl,by simpa using HB.out,HG.out,HK.out⟩

theorem RPost.behind {w wr w':World} {S:List Nat} {p:Nat} {s:WS} (hk:Kp [] w wr) (h:RPost wr w' S p s):RPost w w' S p s:=by
 obtain ⟨S',q1,q2,q3⟩:=h;exact ⟨S',q1,(hk.mono (by simp)).trans q2,fun z hz=>(q3 z hz).imp id (fun h=>Nat.le_trans hk.size h)⟩
theorem okG_no {x:Int} (h:x < 1 ∨ 1152921504606846975 < x) (hx:x≤9223372036854775807):okG x=false:=by
 unfold okG;by_cases h0:0 < x
 ·rw [decide_eq_true h0,Bool.true_and,decide_eq_false];intro hb;have:=(bl_le_iff (x:=x.toNat) (k:=60) (by omega) (by omega)).1 (by omega);omega
 ·rw [decide_eq_false h0,Bool.false_and]
theorem okG_yes {z:Nat} (h0:z ≠ 0) (h:z≤1152921504606846975):okG (z:Int)=true∧bl z≤60∧1≤bl z:=by
 have hb:=(bl_le_iff (x:=z) (k:=60) (by omega) (by omega)).2 (by omega);refine ⟨?_,hb,(bl_spec (by omega) h0).1⟩;unfold okG;rw [Int.toNat_natCast,decide_eq_true (by omega),decide_eq_true (by omega)];rfl
theorem shr_pos {z q:Nat} (h:z≤1152921504606846975) (hq:q≤60):((z:Int) / 2 ^ q=0 ↔ bl z≤q)∧0≤(z:Int) / 2 ^ q:=by
 have e:(z:Int) / 2 ^ q=((z / 2 ^ q:Nat):Int):=by simp
 have hb:=bl_le_iff (x:=z) (k:=q) (by omega) (by omega);rw [e];refine ⟨?_,Int.natCast_nonneg _⟩;rw [hb,Int.natCast_eq_zero,Nat.div_eq_zero_iff];have:=Nat.two_pow_pos q;omega
theorem wGam_no {L:List Bool} {l:List Int} {x:Int} (hx:x ∈ l) (ho:okG x=false):wGam (L,0) l=(L,2):=by
 unfold wGam;rw [if_neg (by simp),if_neg];intro h;rw [List.all_eq_true.1 h x hx] at ho
 cases ho
theorem rgamma_any (S:List Nat) (p n m c B:Nat) (A:Option Addr) (l:List Int) (s:WS) (w:World) (h:WrR w S p s) (hn:s.1.length=n) (hx:Rd w B A (l.map (.int .i64))) (hl:l.length=m) (hm:m≤1000000) (hs:∀ x ∈ l,x≤9223372036854775807) :
  Calls Tryz.prog 92 #[.pointer (some ⟨p,0,none⟩),.slice A m c] w fun e w'=>e=.returned (.int .i64 (wGam s l).2)∧RPost w w' S p (wGam s l):=by
 obtain ⟨L,err⟩:=s;have HC:=Lib.hid (show ∀ wr,Kp [] w wr→wr.cell? ⟨p,1,none⟩=some (.int .i64 err)∧wr.frozen? ⟨p,1,none⟩=false from fun wr hk=>⟨((h.kp0 hk).cells hn).2.1,((h.kp0 hk).cells hn).2.2.1 1⟩);obtain ⟨hc1,hf1⟩:=HC.out w (Kp.refl _ _);by_cases he:err=0
 ·subst he;obtain ⟨R,hR⟩:∃ R,R=wGam (L,0) l:=⟨_,rfl⟩;rw [← hR];have HR:=Lib.hid hR;clear hR;obtain ⟨i0,hi,hz0,hz1,hz2⟩:=info_parts Tryz.info_bool_;have HI:=Lib.hid hi;have H:=Lib.hid h;clear h;have HN:=Lib.hid hn;clear hn;have HX:=Lib.hid hx;clear hx;have HL:=Lib.hid hl;clear hl;have HS:=Lib.hid hs;clear hs;clear hi
  go_enter Tryz.func92,Tryz.ntmps92
  go_wp2_with fail;clear hc1 hf1
  go_loopw [5,6] (fun v y wr=>∃ (k j c1:Nat) (A1:Option Addr),y=.int .i64 (k:Int)∧v=.slice A1 j c1∧k≤m∧Hid (j=(gamsL (l.take k)).length)∧Hid (∀ x ∈ l.take k,okG x=true)∧Hid (wr.ownsRow w.heap.size 4 1 (.slice A1 j c1) j ((gamsL (l.take k)).map .bool))∧Hid (Kp [] w wr)) (fun _ y _=>m - (intOf y).toNat)
  case atStart=>exact ⟨0,0,0,none,rfl,rfl,by omega,Lib.hid rfl,Lib.hid (by simp),Lib.hid (World.ownsRow_nil _ _ _ 1),Lib.hid (Kp.refl _ _)⟩
  case round =>
   obtain ⟨k,j,c1,A1,rfl,rfl,hk,HJ,HOK,HO,HK⟩:=hrel;obtain ⟨hc1,hf1⟩:=HC.out wr HK.out
   have HJB:=Lib.hid (show j≤119000000 by
    have h:=gamsL_len_le (l.take k) HOK.out;rw [← HJ.out,List.length_take] at h
    omega)
   by_cases hlt:k < m
   ·obtain ⟨x,ad,hxk,rfl,_,hcx⟩:=(HX.out.kp0 HK.out).ix (i:=k) (by rw [HL.out];exact hlt);have hxm:=List.mem_of_getElem? hxk;have hxs:=HS.out x hxm;have HXK:=Lib.hid hxk;have HXM:=Lib.hid hxm;clear hxk hxm;by_cases hx0:x < 1
    ·have HE:=Lib.hid (show R=(L,2) by rw [HR.out];exact wGam_no HXM.out (okG_no (.inl hx0) hxs));go_wp2_with fail;go_ret;rw [HE.out];exact ⟨rfl,RPost.behind HK.out ((H.out.kp0 HK.out).err 2)⟩
    ·by_cases hx1:1152921504606846975 < x
     ·have HE:=Lib.hid (show R=(L,2) by rw [HR.out];exact wGam_no HXM.out (okG_no (.inr hx1) hxs));go_wp2_with fail;go_ret;rw [HE.out];exact ⟨rfl,RPost.behind HK.out ((H.out.kp0 HK.out).err 2)⟩
     ·obtain ⟨z,rfl⟩:∃ z:Nat,x=(z:Int):=⟨x.toNat,by omega⟩;have hz1':z≤1152921504606846975:=by omega
      obtain ⟨hokz,hb60,hb1⟩:=okG_yes (z:=z) (by omega) hz1';have HOX:=Lib.hid hokz;obtain ⟨b,hb⟩:∃ b,b=bl z:=⟨_,rfl⟩;rw [← hb] at hb60 hb1;have HBL:=Lib.hid hb;have HLT:=Lib.hid hlt;have HGK:=Lib.hid hc1;clear hb hokz;go_wp2_with fail
      generalize hwr:wr=wk
      rw [hwr] at HK HO hcx HGK;clear hwr hc1 hf1
      go_loopw [7] (fun v wr=>∃ q:Nat,v=.int .i64 (q:Int)∧1≤q∧q≤b∧wr=wk) (fun y _=>b - (intOf y).toNat)
      case atStart=>exact ⟨1,rfl,by omega,hb1,rfl⟩
      case round =>
       obtain ⟨q,rfl,hq1,hqb,rfl⟩:=hrel;have hsh:=shr_pos (q:=q) hz1' (by omega);rw [← HBL.out] at hsh;by_cases hqe:b≤q
       ·obtain rfl:q=b:=by omega
        have hs0:(z:Int) / 2 ^ q=0:=hsh.1.2 hqe;clear hsh;have hzb:z≤9223372036854775807:=by omega
        have HCD:=Lib.hid (rdigits_any q z wr (by omega) hzb);obtain ⟨r,hr⟩:∃ r,q=r+1:=⟨q - 1,by omega⟩;have hr1:(q:Int) - 1=(r:Int):=by omega
        have HR1:=Lib.hid hr;clear hr;go_wp2_with fail;refine HCD.out.mono ?_;rintro e w2 ⟨g,rfl,hB,hgg,hk2⟩;have HB:=Lib.hid hB;have HG:=Lib.hid hgg;have HK2:=Lib.hid (HK.out.trans hk2);have HO2:=Lib.hid (own_kp0 HO.out hk2)
        have HNG:=Lib.hid (show ¬ (Value.slice A1 j c1).ownBlock=some g from fun h=>by
         obtain ⟨q,hq⟩:=own_blk_some HO.out h;have:=hq.lt
         omega)
        have hsz:=HK2.out.size;have hjb:=HJB.out;have hi:=HI.out;clear hB hgg hk2 hcx
        go_wp2_with (at_builtin;first
                     | (go_loud (refine wpList_append_zeros rfl (.tmp 62) (.tmp 64) 80 3 rfl w.heap.size 4 i0 (.bool false) 1 Tryz.underlying80 Tryz.underlying3 hi hz0 hz1 hz2 rfl rfl (.slice A1 j c1) j _ rfl HO2.out r rfl (by unfold maxLen;omega) (by omega) hsz ?_)
                        intro v3 w3 hown3 hgrow3 hat3
                        go_loud (obtain ⟨A3,c3,rfl,_⟩:=own_form hown3)
                        go_loud (have hkg:Kp (ownL (.slice A1 j c1)) w2 w3:=(Kp.refl _ w2).grown hgrow3 (fun b hb=>.inl (mem_ownL.2 hb)))
                        have HK3:=Lib.hid (Kp.own HO2.out hkg HK2.out);have HO3:=Lib.hid hown3
                        go_loud (have HB3:=Lib.hid (HB.out.kp hkg (fun hm=>HNG.out (mem_ownL.1 hm))))
                        have hsz3:=HK3.out.size
                        clear hown3 hgrow3 hat3 hkg)
                     | (go_loud (refine wpList_append_rd rfl (.tmp 65) (.tmp 66) 80 rfl w.heap.size 4 i0 (.bool false) 1 1 Tryz.underlying80 hi hz0 hz1 hz2 rfl (by decide) (.slice A3 (j+r) c3) (j+r) _ rfl HO3.out _ _ q q ((digL q z).map .bool) rfl (by rw [List.length_map,digL_len,Nat.mul_one]) (HB3.out.rd HB3.out.lt) (by intro u hu;obtain ⟨b,_,rfl⟩:=List.mem_map.1 hu;rfl) (by unfold maxLen;omega) (by omega) hsz3 ?_)
                        intro v4 w4 hown4 hgrow4 hat4
                        go_loud (obtain ⟨A4,c4,rfl,_⟩:=own_form hown4)
                        go_loud (have hkg:Kp (ownL (.slice A3 (j+r) c3)) w3 w4:=(Kp.refl _ w3).grown hgrow4 (fun b hb=>.inl (mem_ownL.2 hb)))
                        have HK4:=Lib.hid (Kp.own HO3.out hkg HK3.out);have HO4:=Lib.hid hown4
                        clear hown4 hgrow4 hat4 hkg))
        have HGL:=Lib.hid (show gamL z=List.replicate r false ++ digL q z by unfold gamL;rw [← HBL.out,show q - 1=r by have:=HR1.out;omega]);have hlt:=HLT.out
        exact ⟨⟨k+1,j+r+q,c4,A4,by go_num,rfl,by omega,Lib.hid (by rw [take_succ_of HXK.out,gamsL_snoc,List.length_append,← HJ.out,Int.toNat_natCast,HGL.out,List.length_append,List.length_replicate,digL_len,Nat.add_assoc]),
         Lib.hid (by
          rw [take_succ_of HXK.out];intro y hy;rcases List.mem_append.1 hy with h | h
          ·exact HOK.out y h
          ·rw [List.mem_singleton] at h;rw [h]
           exact HOX.out),
         Lib.hid (by rw [take_succ_of HXK.out,gamsL_snoc,Int.toNat_natCast,HGL.out,List.map_append,List.map_append,List.map_replicate,← List.append_assoc];exact HO4.out),HK4⟩,by simp [intOf];omega⟩
       ·have hs0:0 < (z:Int) / 2 ^ q:=by
         have:=hsh.2;rcases Int.lt_or_eq_of_le this with h | h
         ·exact h
         ·exact absurd (hsh.1.1 h.symm) hqe
        clear hsh;go_wp2_with fail;exact ⟨⟨q+1,by go_num,by omega,by omega,trivial⟩,by simp [intOf];omega⟩
   ·obtain rfl:m=k:=by omega
    have htk:l.take m=l:=List.take_of_length_le (by rw [HL.out];exact Nat.le_refl _);have ho2:=HO.out;have hok:=HOK.out;have hj:=HJ.out;rw [htk] at ho2 hok hj
    have HE:=Lib.hid (show R=wPut (L,0) (gamsL l) by
     rw [HR.out];unfold wGam
     rw [if_neg (by simp),if_pos (List.all_eq_true.2 hok)])
    have HJ2:=Lib.hid hj.symm;have hjb:j≤1000000000:=by have:=HJB.out;omega
    have HO2:=Lib.hid ho2;clear ho2;clear hok hj htk HO HJ HOK;go_wp2_with fail;refine (rwput_any S p n j c1 _ A1 (gamsL l) (L,0) wr (H.out.kp0 HK.out) HN.out (own_rd HO2.out) HJ2.out hjb).mono ?_;rintro e w3 ⟨rfl,hp⟩;have HQ:=Lib.hid (RPost.behind HK.out hp);clear hp;go_wp2_with fail;go_ret;rw [HE.out];exact ⟨rfl,HQ.out⟩
 ·have HR:=Lib.hid (show wGam (L,err) l=(L,err) by unfold wGam;rw [if_pos he]);rw [HR.out];have hb:(err == 0)=false:=by simpa using he
  clear he;have H:=Lib.hid h;clear h;have HN:=Lib.hid hn;clear hn;have HX:=Lib.hid hx;clear hx;have HL:=Lib.hid hl;clear hl;have HS:=Lib.hid hs;clear hs
  go_enter Tryz.func92,Tryz.ntmps92
  go_wp2_with fail;go_ret;exact ⟨rfl,RPost.refl H.out⟩
end Go.Proofs.YtanacapkfllbnaaGreatDoor
