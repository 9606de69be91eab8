/-
  LAYER 6's REFERENCE: the next word.
  CONDITIONS: words of at most 10^6 bits, one at least.
-/
import Derived.Test.YtanacapkfllbnaaGreatDoorR14
import Derived.Test.YtanacapkfllbnaaGreatDoorR30
set_option maxRecDepth 100000
set_option maxHeartbeats 4000000
namespace Go.Proofs.YtanacapkfllbnaaGreatDoor
open Go.RowKit

theorem incW_mid (p:List Bool) (k:Nat):incW (p ++ false :: List.replicate k true)=p ++ true :: List.replicate k false:=by
 unfold incW;rw [List.reverse_append,List.reverse_cons,List.reverse_replicate,List.append_assoc,List.singleton_append,incR_ones]
 simp
theorem incW_all (n:Nat):incW (List.replicate n true)=List.replicate n false:=by
 unfold incW;rw [List.reverse_replicate]
 have:∀ n,incR (List.replicate n true)=List.replicate n false:=by
  intro n
  induction n with
  | zero=>rfl
  | succ n ih=>rw [List.replicate_succ,List.replicate_succ,incR,ih]
 rw [this,List.reverse_replicate]
theorem refnext_any (A:Option Addr) (n m c B:Nat) (u:List Bool) (w:World) (hx:Rd w B A (u.map .bool)) (hn:u.length=n) (h1:1≤n) (hb:n≤1000000) (hm:m≤1000000) :
  Calls Tryz.prog 141 #[.slice A n c,.int .i64 (m:Int)] w fun e w'=>∃ (A':Option Addr) (c':Nat),e=.returned (.slice A' m c')∧m≤c'∧Rd w' w'.heap.size A' ((nextW u m).map .bool)∧(∀ ad,A'=some ad→w.heap.size≤ad.block)∧Kp [] w w':=by
 obtain ⟨i0,hi0,hz0,hz1,hz2⟩:=info_parts Tryz.info_abool;have HX:=Lib.hid (hx.kp0 ((Kp.refl [] w).alloc (.cells #[] 4)));have HN:=Lib.hid hn;clear hx hn
 go_enter Tryz.func141,Tryz.ntmps141
 go_upto_region 2 with (at_builtin;go_loud (refine wpList_append_rd rfl (.tmp 7) (.tmp 8) 80 rfl w.heap.size 4 i0 (.bool false) 1 1 Tryz.underlying80 hi0 hz0 hz1 hz2 rfl (by decide) (.slice (some ⟨w.heap.size,0,none⟩) 0 0) 0 [] rfl (own_nilA w w.heap.size _ 1 (Nat.le_refl _)) _ A n c (u.map .bool) rfl (by rw [List.length_map,HN.out,Nat.mul_one]) HX.out (oc_bools _) (by unfold maxLen;omega) (by omega) (by simp) ?_);intro v1 w1 hown1 hgrow1 hat1)
 have hk1:Kp [] w w1:=((Kp.refl [] w).alloc _).grown hgrow1 (fun x hx=>.inr (by simp [Value.ownBlock] at hx;omega));rw [Nat.zero_add,List.nil_append] at hown1;rcases own_blk hown1 with ⟨_,hz,_⟩ | ⟨g,cap,rest,rfl,hg,hb1,hn1,hm1,hl1,hc1⟩
 ·omega
 have HG:=Lib.hid hg;have HK1:=Lib.hid hk1
 have HB1:=Lib.hid (show Blk w1 g 4 (((u.take (n - 0)).map .bool ++ List.replicate 0 (.bool false)) ++ rest) from by
  rw [Nat.sub_zero,List.take_of_length_le (by rw [HN.out];exact Nat.le_refl _)]
  simpa using hb1)
 have HC1:=Lib.hid hc1;clear hown1 hgrow1 hat1 hk1 hb1 hl1 hg hc1;go_wp2_with fail
 go_loopw [6] (fun x wr=>∃ t:Nat,x=.int .i64 ((n:Int) - 1 - (t:Int))∧t≤n∧Hid (u=u.take (n - t) ++ List.replicate t true)∧Hid (Blk wr g 4 (((u.take (n - t)).map .bool ++ List.replicate t (.bool false)) ++ rest))∧Hid (Kp [g] w1 wr)) (fun x _=>(intOf x+1).toNat)
 case atStart=>exact ⟨0,by simp,by omega,Lib.hid (by rw [Nat.sub_zero,List.take_of_length_le (by rw [HN.out];exact Nat.le_refl _)];simp),HB1,Lib.hid (Kp.refl _ _)⟩
 case round =>
  clear HB1;obtain ⟨t,rfl,ht,HU,HB,HK⟩:=hrel;by_cases hlt:t < n
  ·obtain ⟨k,hk⟩:∃ k,n=k+1+t:=⟨n - 1 - t,by omega⟩;have hk9:(n:Int) - 1 - (t:Int)=(k:Int):=by omega
   have HKE:=Lib.hid (show n - t=k+1∧n - (t+1)=k from ⟨by omega,by omega⟩);obtain ⟨b,hb⟩:∃ b,u[k]? = some b:=⟨_,List.getElem?_eq_getElem (by rw [HN.out];omega)⟩;have HT:=Lib.hid (show u.take (k+1)=u.take k ++ [b] from take_snoc_ hb);have HLK:=Lib.hid (show (u.take k).length=k from by rw [List.length_take,HN.out];omega);rw [HKE.out.1,HT.out] at HB HU;rw [hk9];have hk0:(0:Int)≤(k:Int):=by omega
   have hkn:k < n:=by omega
   have hkn2:(k:Int) < (n:Int):=by omega
   have hck:wr.cell? ⟨g,k,none⟩=some (.bool b):=by
    rw [HB.out.cell,List.append_assoc,List.map_append,List.append_assoc,List.getElem?_append_right (by rw [List.length_map,HLK.out];exact Nat.le_refl _),List.length_map,HLK.out,Nat.sub_self];rfl
   have hfk:=HB.out.free k
   have hset:∀ v:Value,((((u.take k ++ [b]).map Value.bool ++ List.replicate t (Value.bool false)) ++ rest).set k v)=((u.take k).map Value.bool ++ v :: List.replicate t (Value.bool false)) ++ rest:=fun v=>by
    rw [List.map_append,List.append_assoc,List.append_assoc,List.set_append_right _ _ (by rw [List.length_map,HLK.out];exact Nat.le_refl _),List.length_map,HLK.out,Nat.sub_self]
    simp
   cases b with
   | true =>
     have HB2:=Lib.hid (show Blk (wr.setCell ⟨g,k,none⟩ (.bool false)) g 4 (((u.take (n - (t+1))).map .bool ++ List.replicate (t+1) (.bool false)) ++ rest) from by
      rw [HKE.out.2];have:=HB.out.set_ k (.bool false);rw [hset] at this
      exact this)
     have HK2:=Lib.hid (HK.out.setCell (p:=⟨g,k,none⟩) (.inl (by simp)) (.bool false))
     have HU2:=Lib.hid (show u=u.take (n - (t+1)) ++ List.replicate (t+1) true from by
      rw [HKE.out.2];have:=HU.out;rw [List.append_assoc] at this
      exact this)
     clear hb hk hset HB HK HU hk9;go_wp2_with fail;exact ⟨⟨t+1,by rw [show (k:Int) - 1=(n:Int) - 1 - ((t+1:Nat):Int) from by have:=HKE.out;omega],by omega,HU2,HB2,HK2⟩,by simp only [intOf];omega⟩
   | false =>
     have HB2:=Lib.hid (show Blk (wr.setCell ⟨g,k,none⟩ (.bool true)) g 4 ((incW u).map .bool ++ rest) from by
      have:=HB.out.set_ k (.bool true);rw [hset] at this;have hu:=HU.out;rw [List.append_assoc] at hu;rw [hu,show u.take k ++ ([false] ++ List.replicate t true)=u.take k ++ false :: List.replicate t true from rfl,incW_mid,List.map_append,List.map_cons,List.map_replicate]
      exact this)
     have HK2:=Lib.hid (HK.out.setCell (p:=⟨g,k,none⟩) (.inl (by simp)) (.bool true));clear hb hk hset HB HK HU hk9
     go_upto_region 7 with fail
     obtain ⟨w5,hw5⟩:∃ w5,w5=wr.setCell ⟨g,k,none⟩ (.bool true):=⟨_,rfl⟩;rw [← hw5] at HB2 HK2 ⊢;clear hw5 hck hfk;have HBI:=Lib.hid (show Blk w5 g 4 ((incW u).map .bool ++ rest) from HB2.out);have HKI:=Lib.hid (show Kp [] w w5 from HK1.out.trans' HK2.out (fun x hx=>.inr (by rw [List.mem_singleton.1 hx];exact HG.out)))
     have HOI:=Lib.hid (own_of_blk (size:=1) (n:=n) (cap:=cap) (base:=w.heap.size) HBI.out HG.out hn1 hm1 (by rw [List.length_map,incW_len,HN.out,Nat.mul_one]) (by
      have:=HC1.out;rw [List.length_append,List.length_map] at this ⊢;rw [incW_len]
      exact this))
     clear HBI HK1
     go_loopw [5] (fun v wr=>∃ (j N c:Nat) (A:Option Addr),v=.slice A N c∧N=n+j∧(N≤m ∨ j=0)∧Hid (wr.ownsRow w.heap.size 4 1 (.slice A N c) N ((incW u).map .bool ++ List.replicate j (.bool false)))∧Hid (Kp [] w wr)) (fun v _=>m - (match v with | .slice _ k _=>k | _=>0))
     case atStart=>exact ⟨0,n,cap,_,rfl,rfl,.inr rfl,Lib.hid (by rw [List.replicate_zero,List.append_nil];exact HOI.out),HKI⟩
     case round =>
      clear HOI HKI;obtain ⟨j,N,c,A,rfl,hN,hj,HO,HK⟩:=hrel;by_cases hlt:N < m
      ·have HSZ:=Lib.hid HK.out.size;have HNJ:=Lib.hid hN;have hNb:N≤1000000:=by omega
       clear hN
       go_wp2_with (at_builtin;go_loud (refine wpList_append_rd rfl (.tmp 33) (.tmp 34) 80 rfl (w.heap.size) 4 i0 (.bool false) 1 1 Tryz.underlying80 hi0 hz0 hz1 hz2 rfl (by decide) (.slice A N c) (N) _ rfl (own_kp0 HO.out ((Kp.refl [] _).alloc _)) _ _ 1 1 [.bool false] rfl rfl (Rd.new wr #[.bool false] 4 (0,0)) (by intro u hu;simp at hu;subst hu;rfl) (by unfold maxLen;omega) (by omega) (by have:=HSZ.out;simp;omega) ?_);intro v3 w3 hown3 hgrow3 hat3;obtain ⟨hka3,hga3⟩:=app_facts hgrow3 hat3;obtain ⟨A3',c3',rfl,_⟩:=own_form hown3)
       exact ⟨⟨j+1,N+1,c3',A3',rfl,by have:=HNJ.out;omega,by omega,Lib.hid (by rw [List.replicate_succ',← List.append_assoc];exact hown3),Lib.hid (HK.out.trans' hka3 (fun x hx=>.inr (own_ge HO.out (mem_ownL.1 hx)).1))⟩,by simp only;omega⟩
      ·have hmN:m≤N:=by omega
       obtain ⟨_,_,hv9,hNc,_,hA0,hA9⟩:=own_form HO.out;injection hv9 with e1 e2 e3
       subst e1 e3;have hmc:m≤c:=by omega
       have HNJ:=Lib.hid hN
       have HR:=Lib.hid (show Rd wr wr.heap.size A ((nextW u m).map .bool) from by
        have h1:=(own_rd HO.out).take m;rw [← List.map_replicate,← List.map_append,← List.map_take] at h1;unfold nextW;rw [HN.out];rcases hj with hj | hj
        ·have:N=m:=by omega
         have hjj:m - n=j:=by omega
         rw [hjj];exact h1
        ·subst hj;rw [show m - n=0 by omega]
         exact h1)
       have HA:=Lib.hid (show ∀ ad,A=some ad→w.heap.size≤ad.block from fun ad h=>(hA9 ad h).2.2.1);clear hN hj hA0 hA9 HO;go_wp2_with fail;go_ret;exact ⟨A,c,rfl,hmc,HR.out,HA.out,HK.out⟩
  ·have hend:decide ((0:Int)≤(n:Int) - 1 - (t:Int))=false:=by simp;omega
   have HBX:=Lib.hid (show Blk wr g 4 ((incW u).map .bool ++ rest) from by
    have h1:=HB.out;have h2:=HU.out;rw [show n - t=0 by omega] at h1 h2;have htn:t=n:=by omega
    rw [htn] at h1 h2;rw [h2];rw [List.take_zero,List.nil_append,incW_all,List.map_replicate]
    exact h1)
   have HKX:=HK;clear HB HU HK
   go_upto_region 7 with fail
   have HBI:=Lib.hid (show Blk wr g 4 ((incW u).map .bool ++ rest) from HBX.out);have HKI:=Lib.hid (show Kp [] w wr from HK1.out.trans' HKX.out (fun x hx=>.inr (by rw [List.mem_singleton.1 hx];exact HG.out)))
   have HOI:=Lib.hid (own_of_blk (size:=1) (n:=n) (cap:=cap) (base:=w.heap.size) HBI.out HG.out hn1 hm1 (by rw [List.length_map,incW_len,HN.out,Nat.mul_one]) (by
    have:=HC1.out;rw [List.length_append,List.length_map] at this ⊢;rw [incW_len]
    exact this))
   clear HBI HK1
   go_loopw [5] (fun v wr=>∃ (j N c:Nat) (A:Option Addr),v=.slice A N c∧N=n+j∧(N≤m ∨ j=0)∧Hid (wr.ownsRow w.heap.size 4 1 (.slice A N c) N ((incW u).map .bool ++ List.replicate j (.bool false)))∧Hid (Kp [] w wr)) (fun v _=>m - (match v with | .slice _ k _=>k | _=>0))
   case atStart=>exact ⟨0,n,cap,_,rfl,rfl,.inr rfl,Lib.hid (by rw [List.replicate_zero,List.append_nil];exact HOI.out),HKI⟩
   case round =>
    clear HOI HKI;obtain ⟨j,N,c,A,rfl,hN,hj,HO,HK⟩:=hrel;by_cases hlt:N < m
    ·have HSZ:=Lib.hid HK.out.size;have HNJ:=Lib.hid hN;have hNb:N≤1000000:=by omega
     clear hN
     go_wp2_with (at_builtin;go_loud (refine wpList_append_rd rfl (.tmp 33) (.tmp 34) 80 rfl (w.heap.size) 4 i0 (.bool false) 1 1 Tryz.underlying80 hi0 hz0 hz1 hz2 rfl (by decide) (.slice A N c) (N) _ rfl (own_kp0 HO.out ((Kp.refl [] _).alloc _)) _ _ 1 1 [.bool false] rfl rfl (Rd.new wr #[.bool false] 4 (0,0)) (by intro u hu;simp at hu;subst hu;rfl) (by unfold maxLen;omega) (by omega) (by have:=HSZ.out;simp;omega) ?_);intro v3 w3 hown3 hgrow3 hat3;obtain ⟨hka3,hga3⟩:=app_facts hgrow3 hat3;obtain ⟨A3',c3',rfl,_⟩:=own_form hown3)
     exact ⟨⟨j+1,N+1,c3',A3',rfl,by have:=HNJ.out;omega,by omega,Lib.hid (by rw [List.replicate_succ',← List.append_assoc];exact hown3),Lib.hid (HK.out.trans' hka3 (fun x hx=>.inr (own_ge HO.out (mem_ownL.1 hx)).1))⟩,by simp only;omega⟩
    ·have hmN:m≤N:=by omega
     obtain ⟨_,_,hv9,hNc,_,hA0,hA9⟩:=own_form HO.out;injection hv9 with e1 e2 e3
     subst e1 e3;have hmc:m≤c:=by omega
     have HNJ:=Lib.hid hN
     have HR:=Lib.hid (show Rd wr wr.heap.size A ((nextW u m).map .bool) from by
      have h1:=(own_rd HO.out).take m;rw [← List.map_replicate,← List.map_append,← List.map_take] at h1;unfold nextW;rw [HN.out];rcases hj with hj | hj
      ·have:N=m:=by omega
       have hjj:m - n=j:=by omega
       rw [hjj];exact h1
      ·subst hj;rw [show m - n=0 by omega]
       exact h1)
     have HA:=Lib.hid (show ∀ ad,A=some ad→w.heap.size≤ad.block from fun ad h=>(hA9 ad h).2.2.1);clear hN hj hA0 hA9 HO;go_wp2_with fail;go_ret;exact ⟨A,c,rfl,hmc,HR.out,HA.out,HK.out⟩
end Go.Proofs.YtanacapkfllbnaaGreatDoor
