/-
  LAYER 6 (alpha): Make.
  CONDITIONS: lists of at most 10^9 numbers.
-/
import Derived.Test.YtanacapkfllbnaaGreatDoorR16
import Derived.Test.YtanacapkfllbnaaGreatDoorR17
import Derived.Test.YtanacapkfllbnaaGreatDoorR30
import Derived.Laws.Tables
set_option maxRecDepth 100000
set_option maxHeartbeats 4000000
namespace Go.Proofs.YtanacapkfllbnaaGreatDoor
open Go.RowKit

theorem codeZ (r1 r2:Value):(Tryz.zeroCells170.setIfInBounds 258 r1).setIfInBounds 259 r2=(.pointer none :: (List.replicate 257 (.slice none 0 0) ++ [r1,r2])).toArray:=by kernel_rfl
def MakeP (w:World) (some_ lens:List Int) (e:Ending) (w':World):Prop:=
 (okMake some_ lens→∃ p,e=.returned (.tuple #[.pointer (some ⟨p,0,none⟩),.int .i64 0])∧CodeM w' w.heap.size w'.heap.size p (treeC some_ lens) (some_.map Int.toNat) lens)∧(¬ okMake some_ lens→e=.returned (.tuple #[.pointer none,.int .i64 2]))∧Kp [] w w'
theorem MakeP.no {w w':World} {s l:List Int} (h:¬ okMake s l) (hk:Kp [] w w'):MakeP w s l (.returned (.tuple #[.pointer none,.int .i64 2])) w':=⟨fun h'=>absurd h' h,fun _=>rfl,hk⟩
theorem Tryz.info_a2:(Tryz.prog.info? 162).map (fun i=>(i.zero,i.size,i.bytes))=some (some (.agg #[.int .i64 0,.int .i64 0]),2,16):=by kernel_rfl
theorem codeM_mk {w:World} {lo hi p n c2 c3:Nat} {a2 a3:Addr} {sm lens:List Int} {v:Value} {ws:List Value} (hok:okMake sm lens) (hn:sm.length=n) (hm:lens.length=n) (hB:Blk w p 170 (v :: (ws ++ [.slice (some a2) n c2,.slice (some a3) n c3]))) (hN:NodeM w (p+1) hi (treeC sm lens) v) (hW:WordsM w (fun g=>p < g) hi (treeC sm lens).word ws)
  (h2:n≤c2) (h3:n≤c3) (l2:lo≤a2.block) (l3:lo≤a3.block) (u2:a2.block < p) (u3:a3.block < p) (r2:Rd w p (some a2) (sm.map (.int .i64))) (r3:Rd w p (some a3) (lens.map (.int .i64))) (hlo:lo≤p) (hp:p < hi):CodeM w lo hi p (treeC sm lens) (sm.map Int.toNat) lens:=by
 have e:=(risI_nat (by omega) hok.2.2).2.2;refine ⟨treeC_code hok,hlo,hp,v,ws,a2,a3,c2,c3,by rw [List.length_map,hn,hm];exact hB,hN,hW,by rw [List.length_map,hn];exact h2,by rw [hm];exact h3,l2,l3,?_,r3.bound (by omega),by omega,by omega⟩
 have:(sm.map Int.toNat).map (fun (x:Nat)=>Value.int .i64 (x:Int))=sm.map (.int .i64):=by
  have h9:=congrArg (List.map (Value.int IntKind.i64)) e;rw [List.map_map] at h9;exact h9
 rw [this];exact r2.bound (by omega)
open Classical in
theorem amake_any (A A':Option Addr) (n m c c' B B':Nat) (sm lens:List Int) (w:World) (hx:Rd w B A (sm.map (.int .i64))) (hy:Rd w B' A' (lens.map (.int .i64))) (hn:sm.length=n) (hm:lens.length=m) (hb:n≤1000000000) (hb':m≤1000000000) (hB:B≤w.heap.size) (hB':B'≤w.heap.size) :
  Calls Tryz.prog 60 #[.slice A n c,.slice A' m c'] w (MakeP w sm lens):=by
 obtain ⟨i2,hi2,hz0,hz1,hz2⟩:=info_parts Tryz.info_a2;have HX:=Lib.hid hx;have HY:=Lib.hid hy;have HN:=Lib.hid hn;have HM:=Lib.hid hm;have HBB:=Lib.hid (And.intro hB hB');clear hx hy hn hm hB hB';by_cases hnm:n=m
 case neg =>
  have hd:((n:Int) != (m:Int))=true:=by simp;omega
  have HNO:=Lib.hid (show ¬ okMake sm lens from fun h=>hnm (by rw [← HN.out,← HM.out];exact h.1));clear hnm
  go_enter Tryz.func60,Tryz.ntmps60
  go_wp2_with fail;go_ret2;exact MakeP.no HNO.out (Kp.refl _ _)
 subst hnm;by_cases hf:okF lens
 case neg =>
  have HNO:=Lib.hid (show ¬ okMake sm lens from fun h=>hf h.2.1);have HF:=Lib.hid (show decide (okF lens)=false from decide_eq_false hf);clear hf
  go_enter Tryz.func60,Tryz.ntmps60
  go_wp2_with fail;refine (tfits_any A' n c' B' lens w HY.out HM.out hb').mono ?_;rintro e w1 ⟨rfl,hk1⟩;rw [HF.out];have HK1:=Lib.hid hk1;clear hk1;go_wp2_with fail;go_ret2;exact MakeP.no HNO.out HK1.out
 have HF:=Lib.hid hf;have hn257:n≤257:=by have:=hf.1;have:=HM.out;omega
 have hn1:1≤n:=by have:=okF_pos hf;have:=HM.out;omega
 clear hf
 go_enter Tryz.func60,Tryz.ntmps60
 go_wp2_with fail;refine (tfits_any A' n c' B' lens w HY.out HM.out hb').mono ?_;rw [decide_eq_true HF.out];rintro e w1 ⟨rfl,hk1⟩;have HX1:=Lib.hid (HX.out.kp0 hk1);have HY1:=Lib.hid (HY.out.kp0 hk1);have HK1:=Lib.hid hk1;clear hk1 HX HY;go_wp2_with fail
 go_loopw [6,7,24] (fun l v x wr=>∃ (k cl:Nat) (Al:Option Addr) (b:Int),x=.int .i64 (k:Int)∧l=.int .i64 b∧v=.slice Al k cl∧k≤n∧Hid (risI (-1) (sm.take k)∧b=(sm.take k).getLastD (-1))∧Hid (wr.ownsRow w1.heap.size 162 2 (.slice Al k cl) k (prs (((sm.map Int.toNat).zip (lens.map Int.toNat)).take k)))∧Hid (Kp [] w1 wr)) (fun _ _ x _=>n - (intOf x).toNat)
 case atStart=>exact ⟨0,0,none,-1,rfl,rfl,rfl,by omega,Lib.hid ⟨trivial,rfl⟩,Lib.hid (World.ownsRow_nil w1 _ _ _),Lib.hid (Kp.refl _ _)⟩
 case round =>
  obtain ⟨k,cl,Al,b,rfl,rfl,rfl,hk,HRI,HO,HK⟩:=hrel;by_cases hlt:k < n
  ·obtain ⟨x,ad,hxk,rfl,_,hcx⟩:=(HX1.out.kp0 HK.out).ix (i:=k) (by rw [HN.out];exact hlt);obtain ⟨y,bd,hyk,rfl,_,hcy⟩:=(HY1.out.kp0 HK.out).ix (i:=k) (by rw [HM.out];exact hlt);have HXK:=Lib.hid hxk;have HYK:=Lib.hid hyk;have hyr:=okF_range HF.out y (List.mem_of_getElem? hyk);obtain ⟨yn,rfl⟩:∃ yn:Nat,y=(yn:Int):=⟨y.toNat,by omega⟩;clear hxk hyk;by_cases hbad:x≤b ∨ 257≤x
   ·have HNO:=Lib.hid (show ¬ okMake sm lens from fun h=>by
     have h1:=h.2.2;have e:sm=sm.take (k+1) ++ sm.drop (k+1):=(List.take_append_drop _ _).symm;rw [e] at h1;have h2:=risI_app h1;rw [take_snoc_ HXK.out,risI_snoc,← HRI.out.2] at h2
     omega)
    have HKF:=Lib.hid (HK1.out.trans HK.out);rcases hbad with hb1 | hb1
    ·have hd1:decide (x≤b)=true:=by simpa using hb1
     go_wp2_with fail;go_ret2;exact MakeP.no HNO.out HKF.out
    ·by_cases hb2:x≤b
     ·have hd1:decide (x≤b)=true:=by simpa using hb2
      go_wp2_with fail;go_ret2;exact MakeP.no HNO.out HKF.out
     ·have hd1:decide (x≤b)=false:=by simpa using hb2
      have hd2:decide (257≤x)=true:=by simpa using hb1
      go_wp2_with fail;go_ret2;exact MakeP.no HNO.out HKF.out
   ·have hd1:decide (x≤b)=false:=by simp;omega
    have hd2:decide (257≤x)=false:=by simp;omega
    have hx1:b < x:=by omega
    have hx2:x < 257:=by omega
    have hx0:0≤x:=by
     have h1:=HRI.out.1;by_cases hk0:k=0
     ·subst hk0;have:=HRI.out.2
      simp at this
      omega
     ·have:b ∈ sm.take k:=by
       rw [HRI.out.2]
       have hne:sm.take k ≠ []:=fun e=>by
        have:=congrArg List.length e;rw [List.length_take,HN.out] at this
        simp at this
        omega
       rw [List.getLastD_eq_getLast?,List.getLast?_eq_some_getLast hne];exact List.getLast_mem hne
      have:=(risI_ge h1 b this).1;omega
    obtain ⟨xn,rfl⟩:∃ xn:Nat,x=(xn:Int):=⟨x.toNat,by omega⟩;have HSZ:=Lib.hid HK.out.size
    have HT:=Lib.hid (show prs (((sm.map Int.toNat).zip (lens.map Int.toNat)).take (k+1))=prs (((sm.map Int.toNat).zip (lens.map Int.toNat)).take k) ++ [.int .i64 (xn:Int),.int .i64 (yn:Int)] from by
     rw [take_snoc_ (x:=(xn,yn)) (by rw [List.getElem?_zip_eq_some];exact ⟨by rw [List.getElem?_map,HXK.out];rfl,by rw [List.getElem?_map,HYK.out];rfl⟩),prs_app]
     rfl)
    have HRI2:=Lib.hid (show risI (-1) (sm.take (k+1))∧(xn:Int)=(sm.take (k+1)).getLastD (-1) from by
     rw [take_snoc_ HXK.out]
     refine ⟨risI_snoc.2 ⟨HRI.out.1,by rw [← HRI.out.2];exact hx1,hx2⟩,by simp⟩)
    clear hbad hx1 hx2 hx0 hyr
    go_wp2_with (at_builtin;go_loud (refine wpList_append_rd rfl (.tmp 37) (.tmp 44) 161 rfl (w1.heap.size) 162 i2 (.agg #[.int .i64 0,.int .i64 0]) 2 16 Tryz.underlying161 hi2 hz0 hz1 hz2 rfl (by decide) (.slice Al k cl) (k) _ rfl (own_kp0 HO.out ((Kp.refl [] _).alloc _)) _ _ 1 1 [.int .i64 (xn:Int),.int .i64 (yn:Int)] rfl rfl (Rd.new wr #[.int .i64 (xn:Int),.int .i64 (yn:Int)] 162 (0,0)) (by intro u hu;simp at hu;rcases hu with rfl | rfl <;> rfl) (by unfold maxLen;omega) (by omega) (by have:=HSZ.out;simp;omega) ?_);intro v3 w3 hown3 hgrow3 hat3;obtain ⟨hka3,hga3⟩:=app_facts hgrow3 hat3;obtain ⟨A3',c3',rfl,_⟩:=own_form hown3)
    have HO3:=Lib.hid (show w3.ownsRow w1.heap.size 162 2 (.slice A3' (k+1) c3') (k+1) (prs (((sm.map Int.toNat).zip (lens.map Int.toNat)).take (k+1))) from by rw [HT.out];exact hown3);have HK3:=Lib.hid (HK.out.trans' hka3 (fun x hx=>.inr (own_ge HO.out (mem_ownL.1 hx)).1));exact ⟨⟨k+1,c3',A3',xn,by go_num,rfl,rfl,by omega,HRI2,HO3,HK3⟩,by simp [intOf];omega⟩
  ·obtain rfl:n=k:=by omega
   have HOK:=Lib.hid (show okMake sm lens from ⟨by rw [HN.out,HM.out],HF.out,by have:=HRI.out.1;rwa [List.take_of_length_le (by rw [HN.out];exact Nat.le_refl _)] at this⟩)
   have HLF:=Lib.hid (show Rd wr wr.heap.size Al (prs ((sm.map Int.toNat).zip (lens.map Int.toNat))) from by
    have:=own_rd HO.out
    rwa [List.take_of_length_le (by rw [List.length_zip,List.length_map,List.length_map,HN.out,HM.out];omega)] at this)
   have hcl:n≤cl:=by
    obtain ⟨_,_,hv,hcc,_⟩:=own_form HO.out;injection hv with e1 e2 e3
    omega
   have HKW:=Lib.hid (HK1.out.trans HK.out);have HXW:=Lib.hid (HX1.out.kp0 HK.out);have HYW:=Lib.hid (HY1.out.kp0 HK.out);have HBL:=Lib.hid (show (sm.take n).getLastD (-1)=b from HRI.out.2.symm);clear HK1 HK HX1 HY1 HO HRI hlt hk;go_wp2_with fail
   refine (clonei_any A n c B _ wr HXW.out (by rw [List.length_map];exact HN.out) (by omega) (oc_ints _ _) (fun e=>by
    have h9:=HXW.out;rw [e] at h9;have:=HN.out;rw [h9.none_nil] at this
    exact this.symm)).mono ?_
   rintro e w2 ⟨A2,c2,rfl,ho2,hk2⟩;have HO2:=Lib.hid ho2;have HK2:=Lib.hid (HKW.out.trans hk2);have HKWR:=Lib.hid hk2;have HKWS:=Lib.hid HKW.out.size;have HYW2:=Lib.hid (HYW.out.kp0 hk2);have HLF2:=Lib.hid (HLF.out.kp0 hk2);clear ho2 hk2 HKW HXW HYW HLF;go_wp2_with fail
   refine (clonei_any A' n c' B' _ w2 HYW2.out (by rw [List.length_map];exact HM.out) (by omega) (oc_ints _ _) (fun e=>by
    have h9:=HYW2.out;rw [e] at h9;have:=HM.out;rw [h9.none_nil] at this
    exact this.symm)).mono ?_
   rintro e w3 ⟨A3,c3,rfl,ho3,hk3⟩;have HO23:=Lib.hid (own_kp0 HO2.out hk3);have HO3:=Lib.hid ho3;have HK3:=Lib.hid (HK2.out.trans hk3);have HLF3:=Lib.hid (HLF2.out.kp0 hk3);have HZ:=Lib.hid (show wr.heap.size≤w2.heap.size∧w2.heap.size≤w3.heap.size from ⟨HKWR.out.size,hk3.size⟩);clear ho3 hk3 HO2 HK2 HYW2 HLF2
   obtain ⟨a2,rfl⟩:∃ a2,A2=some a2:=by
    obtain ⟨_,_,hv,_,_,hA,_⟩:=own_form HO23.out;injection hv with e1 e2 e3
    subst e1
    cases A2 with
    | none=>have:=(hA rfl).1;omega
    | some a=>exact ⟨a,rfl⟩
   obtain ⟨a3,rfl⟩:∃ a3,A3=some a3:=by
    obtain ⟨_,_,hv,_,_,hA,_⟩:=own_form HO3.out;injection hv with e1 e2 e3
    subst e1
    cases A3 with
    | none=>have:=(hA rfl).1;omega
    | some a=>exact ⟨a,rfl⟩
   have HF2:=Lib.hid (show wr.heap.size≤a2.block∧a2.block < w3.heap.size∧n≤c2 from by
    obtain ⟨_,_,hv,hcc,_,_,hA⟩:=own_form HO23.out;injection hv with e1 e2 e3
    subst e1 e3;have:=hA a2 rfl
    exact ⟨this.2.2.1,this.2.2.2,hcc⟩)
   have HF3:=Lib.hid (show w2.heap.size≤a3.block∧a3.block < w3.heap.size∧n≤c3 from by
    obtain ⟨_,_,hv,hcc,_,_,hA⟩:=own_form HO3.out;injection hv with e1 e2 e3
    subst e1 e3;have:=hA a3 rfl
    exact ⟨this.2.2.1,this.2.2.2,hcc⟩)
   have HR2:=Lib.hid (own_rd HO23.out);have HR3:=Lib.hid (own_rd HO3.out);clear HO23 HO3
   go_upto_region 14 with fail
   rw [codeZ];have hB4:=Blk.new w3 170 (.pointer none :: (List.replicate 257 (.slice none 0 0) ++ [.slice (some a2) n c2,.slice (some a3) n c3]));have hk4:Kp [] w3 (w3.alloc (.cells (.pointer none :: (List.replicate 257 (.slice none 0 0) ++ [.slice (some a2) n c2,.slice (some a3) n c3])).toArray 170)):=(Kp.refl _ _).alloc _;obtain ⟨p,hp⟩:∃ p,p=w3.heap.size:=⟨_,rfl⟩;obtain ⟨w4,hw4⟩:∃ w4,w4=w3.alloc (.cells (.pointer none :: (List.replicate 257 (.slice none 0 0) ++ [.slice (some a2) n c2,.slice (some a3) n c3])).toArray 170):=⟨_,rfl⟩;rw [← hw4] at hB4 hk4 ⊢;rw [← hp] at hB4 HF2 HF3 ⊢;have HB4:=Lib.hid hB4;have HK4:=Lib.hid (HK3.out.trans hk4);have HLF4:=Lib.hid ((HLF3.out.kp0 hk4).bound (show wr.heap.size≤p from by rw [hp];have:=HZ.out;omega));have HR24:=Lib.hid (show Rd w4 p (some a2) (sm.map (.int .i64)) from by rw [hp];exact HR2.out.kp0 hk4);have HR34:=Lib.hid (show Rd w4 p (some a3) (lens.map (.int .i64)) from by rw [hp];exact HR3.out.kp0 hk4);have HPL:=Lib.hid (show w.heap.size≤wr.heap.size∧wr.heap.size≤w2.heap.size∧w2.heap.size≤p from ⟨HKWS.out,HZ.out.1,by rw [hp];exact HZ.out.2⟩);clear hw4 hp hB4 hk4 HK3 HLF3 HR2 HR3 HZ HKWR;have HCT:=Lib.hid (treeC_code HOK.out);by_cases h1:1 < n
   ·obtain ⟨ta,tb,hT,hfa,hfb⟩:∃ a b,treeC sm lens=.node a b∧a.Full∧b.Full:=by
     rcases HCT.out.2.2.2.2.2 with ⟨a,b,e,ha,hb,_⟩ | ⟨s,e,e2⟩
     ·exact ⟨a,b,e,ha,hb⟩
     ·have:=congrArg List.length e2;rw [List.length_map,HN.out] at this
      simp at this
      omega
    have HT:=Lib.hid hT
    have hcall:=grow_node ta tb (growH_all hfa) (growH_all hfb) hfa p n cl 0 0 Al none [] [] (fun _=>none) (.pointer none) (List.replicate 257 (.slice none 0 0)) [.slice (some a2) n c2,.slice (some a3) n c3] (fun g=>p < g) w4 HB4.out WordsM.none (Nat.lt_irrefl p) (fun g hg=>Nat.lt_of_lt_of_le HB4.out.lt hg)
     (by rw [← hT,List.append_nil];unfold slT;rw [slT_zip HCT.out];exact HLF4.out) (by rw [← hT,List.append_nil];unfold slT;rw [slT_zip HCT.out,List.length_zip,List.length_map,List.length_map,HN.out,HM.out];omega) hcl (by omega) (Rd.nil _ _ _) (fun ad h=>by cases h) rfl (fun x hx=>by
      rw [← hT] at hx;have hw:=(word_iff HCT.out (s:=x.1) (w:=x.2)).2 hx
      exact ⟨HCT.out.2.2.2.1 _ (word_mem HCT.out hw),word_len HCT.out hw⟩)
    rw [← hT] at hcall;have h1d:decide ((1:Int) < (n:Int))=true:=by simp;omega
    clear hT hfa hfb h1;go_wp2_with fail;refine hcall.mono ?_;rintro e w5 ⟨v,A5,n5,c5,ws5,rfl,hB5,hW5,hN5,hR5,hn5,hc5,hk5⟩;obtain ⟨q,rfl⟩:=hN5.ptr;rw [updL_word HCT.out] at hW5;have hcr:w5.cell? ⟨p,0,none⟩=some (.pointer none):=by rw [hB5.cell];rfl
    have hfr:=hB5.free 0;have H5:=Lib.hid (And.intro hB5 (And.intro hW5 (And.intro hN5 hk5)));clear hcall hB5 hW5 hN5 hR5 hn5 hc5 hk5;go_wp2_with fail;obtain ⟨hB5,hW5,hN5,hk5⟩:=H5.out;have hk6:Kp [p] w5 (w5.setCell ⟨p,0,none⟩ (.pointer q)):=(Kp.refl _ _).setCell (.inl (by simp)) _;have hB6:=hB5.set_ 0 (.pointer q);obtain ⟨w6,hw6⟩:∃ w6,w6=w5.setCell ⟨p,0,none⟩ (.pointer q):=⟨_,rfl⟩;rw [← hw6] at hk6 hB6 ⊢;have hpn:p < w4.heap.size:=HB4.out.lt;have hkA:Kp [p] w4 w6:=hk5.trans hk6
    have HF:=Lib.hid (show MakeP w sm lens (.returned (.tuple #[.pointer (some ⟨p,0,none⟩),.int .i64 0])) w6 from by
     refine ⟨fun _=>⟨p,rfl,?_⟩,fun h=>absurd HOK.out h,HK4.out.trans' hkA (fun g hg=>.inr (by rw [List.mem_singleton.1 hg];have:=HPL.out;omega))⟩;refine codeM_mk HOK.out HN.out HM.out (ws:=ws5) hB6 ((hN5.kp hk6 (fun g hg=>.inl (by rw [List.mem_singleton.1 hg];exact hpn))).mono (by omega) hk6.size) ((hW5.kp hk6 (fun g hg=>.inl (by rw [List.mem_singleton.1 hg];exact Nat.lt_irrefl p))).mono (fun _ _ h=>h) hk6.size) HF2.out.2.2 HF3.out.2.2 (by have:=HF2.out;have:=HPL.out;omega) (by have:=HF3.out;have:=HPL.out;omega) HF2.out.2.1 HF3.out.2.1 ?_ ?_ (by have:=HPL.out;omega) (by have:=hkA.size;omega)
     ·exact HR24.out.kp hkA (fun g hg=>by rw [List.mem_singleton.1 hg];exact Nat.le_refl _)
     ·exact HR34.out.kp hkA (fun g hg=>by rw [List.mem_singleton.1 hg];exact Nat.le_refl _))
    clear hw6 hk6 hB6 hB5 hW5 hN5 hk5 hkA H5;go_ret2;exact HF.out
   ·obtain rfl:n=1:=by omega
    have h1d:decide ((1:Int) < ((1:Nat):Int))=false:=by decide
    obtain ⟨s,hT,hsg⟩:∃ s,treeC sm lens=.node (.leaf s) .nil∧sm.map Int.toNat=[s]:=by
     rcases HCT.out.2.2.2.2.2 with ⟨a,b,e,ha,hb,h2⟩ | ⟨s,e,e2⟩
     ·rw [List.length_map,HN.out] at h2;omega
     ·exact ⟨s,e,e2⟩
    obtain ⟨hs256,hbs⟩:s≤256∧b=(s:Int):=by
     have h3:=(risI_nat (by omega) HOK.out.2.2);rw [hsg] at h3;refine ⟨h3.2.1 s (by simp),?_⟩;rw [← HBL.out,← h3.2.2];rfl
    subst hbs;have hs0:(0:Int)≤(s:Int):=by omega
    have hs1:(s:Int) < 257:=by omega
    have HT:=Lib.hid hT;have hcr:w4.cell? ⟨p,0,none⟩=some (.pointer none):=by rw [HB4.out.cell];rfl
    have hfr:=HB4.out.free 0
    have hcs:w4.cell? ⟨p,1+s,none⟩=some (.slice none 0 0):=by
     rw [HB4.out.cell,Nat.add_comm,List.getElem?_cons_succ,List.getElem?_append_left (by rw [List.length_replicate];omega),List.getElem?_replicate,if_pos (by omega)]
    have hfs:=HB4.out.free (1+s);clear hT hsg h1
    go_upto_region 18 with fail
    have hn5:=Blk.new w4 175 [.pointer none,.pointer none,.int .i64 (s:Int),.bool true];have hk5:Kp [] w4 (w4.alloc (.cells #[.pointer none,.pointer none,.int .i64 (s:Int),.bool true] 175)):=(Kp.refl _ _).alloc _;obtain ⟨g1,hg1⟩:∃ g1,g1=w4.heap.size:=⟨_,rfl⟩;obtain ⟨w5,hw5⟩:∃ w5,w5=w4.alloc (.cells #[.pointer none,.pointer none,.int .i64 (s:Int),.bool true] 175):=⟨_,rfl⟩;replace hn5:Blk w5 g1 175 [.pointer none,.pointer none,.int .i64 (s:Int),.bool true]:=by rw [hw5,hg1];exact hn5
    rw [← hw5] at hk5 ⊢;rw [← hg1];have hn6:=Blk.new w5 175 [.pointer (some ⟨g1,0,none⟩),.pointer none,.int .i64 0,.bool false];have hk6:Kp [] w5 (w5.alloc (.cells #[.pointer (some ⟨g1,0,none⟩),.pointer none,.int .i64 0,.bool false] 175)):=(Kp.refl _ _).alloc _;obtain ⟨w6,hw6⟩:∃ w6,w6=w5.alloc (.cells #[.pointer (some ⟨g1,0,none⟩),.pointer none,.int .i64 0,.bool false] 175):=⟨_,rfl⟩;obtain ⟨g2,hg2⟩:∃ g2,g2=w5.heap.size:=⟨_,rfl⟩;replace hn6:Blk w6 g2 175 [.pointer (some ⟨g1,0,none⟩),.pointer none,.int .i64 0,.bool false]:=by rw [hw6,hg2];exact hn6
    have hB6:=(HB4.out.kp0 hk5).kp0 hk6;have hcr6:(w5.alloc (.cells #[.pointer (some ⟨g1,0,none⟩),.pointer none,.int .i64 0,.bool false] 175)).cell? ⟨p,0,none⟩=some (.pointer none):=by rw [hB6.cell];rfl
    have hfr6:(w5.alloc (.cells #[.pointer (some ⟨g1,0,none⟩),.pointer none,.int .i64 0,.bool false] 175)).frozen? ⟨p,0,none⟩=false:=hB6.free 0;rw [← hw6] at hk6 hB6;have HW6:=Lib.hid hw6;have HG2:=Lib.hid hg2;have H56:=Lib.hid (And.intro hn5 (And.intro hk5 (And.intro hn6 (And.intro hk6 (And.intro hB6 hg1)))));clear hw5 hw6 hg1 hg2 hn5 hk5 hn6 hk6 hB6 hcr hfr
    go_upto_region 19 with fail
    rw [← HW6.out,← HG2.out];clear HW6 hcr6 hfr6;obtain ⟨hn5,hk5,hn6,hk6,hB6,hg1⟩:=H56.out;have hk7:Kp [p] w6 (w6.setCell ⟨p,0,none⟩ (.pointer (some ⟨g2,0,none⟩))):=(Kp.refl _ _).setCell (.inl (by simp)) _;have hB7:=hB6.set_ 0 (.pointer (some ⟨g2,0,none⟩));obtain ⟨w7,hw7⟩:∃ w7,w7=w6.setCell ⟨p,0,none⟩ (.pointer (some ⟨g2,0,none⟩)):=⟨_,rfl⟩;rw [← hw7] at hk7 hB7 ⊢;have hn8:=Blk.new w7 4 [.bool false];have hk8:Kp [] w7 (w7.alloc (.cells #[.bool false] 4)):=(Kp.refl _ _).alloc _;have hB8:=hB7.kp0 hk8
    have hcs8:(w7.alloc (.cells #[.bool false] 4)).cell? ⟨p,1+s,none⟩=some (.slice none 0 0):=by
     rw [hB8.cell,Nat.add_comm]
     show (Value.pointer (some ⟨g2,0,none⟩) :: (List.replicate 257 (.slice none 0 0) ++ _))[s+1]? = _
     rw [List.getElem?_cons_succ,List.getElem?_append_left (by rw [List.length_replicate];omega),List.getElem?_replicate,if_pos (by omega)]
    have hfs8:(w7.alloc (.cells #[.bool false] 4)).frozen? ⟨p,1+s,none⟩=false:=hB8.free (1+s);obtain ⟨w8,hw8⟩:∃ w8,w8=w7.alloc (.cells #[.bool false] 4):=⟨_,rfl⟩;obtain ⟨g3,hg3⟩:∃ g3,g3=w7.heap.size:=⟨_,rfl⟩;replace hn8:Blk w8 g3 4 [.bool false]:=by rw [hw8,hg3];exact hn8
    rw [← hw8] at hk8 hB8;have HW8:=Lib.hid hw8;have HG3:=Lib.hid hg3;have hpn:p < w4.heap.size:=HB4.out.lt;have HS:=Lib.hid (show p < g1∧g1 < g2∧g2 < g3 from ⟨by omega,by rw [HG2.out];exact hn5.lt,by rw [hg3];exact Nat.lt_of_lt_of_le hn6.lt hk7.size⟩);have hkA:Kp [p] w4 w8:=(hk5.trans hk6).nil.trans hk7 |>.trans hk8.nil;have HX8:=Lib.hid (And.intro (hn5.kp0 (hk6) |>.kp hk7 (fun h=>by have:=HS.out;have:=List.mem_singleton.1 h;omega) |>.kp0 hk8) (And.intro (hn6.kp hk7 (fun h=>by have:=HS.out;have:=List.mem_singleton.1 h;omega) |>.kp0 hk8) (And.intro hn8 (And.intro hB8 hkA))));clear hn5 hk5 hn6 hk6 hB6 hg1 hk7 hB7 hw7 hn8 hk8 hB8 hw8 hg3 hkA H56 HG2 hcs hfs;go_wp2_with fail;rw [← HW8.out,← HG3.out];obtain ⟨hn5,hn6,hn8,hB8,hkA⟩:=HX8.out;have hk9:Kp [p] w8 (w8.setCell ⟨p,1+s,none⟩ (.slice (some ⟨g3,0,none⟩) 1 1)):=(Kp.refl _ _).setCell (.inl (by simp)) _;have hB9:=hB8.set_ (1+s) (.slice (some ⟨g3,0,none⟩) 1 1);obtain ⟨w9,hw9⟩:∃ w9,w9=w8.setCell ⟨p,1+s,none⟩ (.slice (some ⟨g3,0,none⟩) 1 1):=⟨_,rfl⟩;rw [← hw9] at hk9 hB9 ⊢;have hkB:=hkA.trans hk9;have hsz:=hk9.size;have hne:∀ g,p < g→g ∉ [p]:=fun g h hm=>by have:=List.mem_singleton.1 hm;omega
    have HF:=Lib.hid (show MakeP w sm lens (.returned (.tuple #[.pointer (some ⟨p,0,none⟩),.int .i64 0])) w9 from by
     refine ⟨fun _=>⟨p,rfl,?_⟩,fun h=>absurd HOK.out h,HK4.out.trans' hkB (fun g hg=>.inr (by rw [List.mem_singleton.1 hg];have:=HPL.out;omega))⟩;refine codeM_mk HOK.out HN.out HM.out (v:=.pointer (some ⟨g2,0,none⟩)) (ws:=(List.replicate 257 (.slice none 0 0)).set s (.slice (some ⟨g3,0,none⟩) 1 1)) ?_ ?_ ?_ HF2.out.2.2 HF3.out.2.2 (by have:=HF2.out;have:=HPL.out;omega) (by have:=HF3.out;have:=HPL.out;omega) HF2.out.2.1 HF3.out.2.1 (HR24.out.kp hkB (fun g hg=>by rw [List.mem_singleton.1 hg];exact Nat.le_refl _)) (HR34.out.kp hkB (fun g hg=>by rw [List.mem_singleton.1 hg];exact Nat.le_refl _)) (by have:=HPL.out;omega) (by have:=hkB.size;omega)
     ·have h9:Blk w9 p 170 ((Value.pointer (some ⟨g2,0,none⟩) :: (List.replicate 257 (.slice none 0 0) ++ [.slice (some a2) 1 c2,.slice (some a3) 1 c3])).set (1+s) (.slice (some ⟨g3,0,none⟩) 1 1)):=hB9;rw [code_set (by rw [List.length_replicate];omega)] at h9;exact h9
     ·rw [HT.out];exact ⟨g2,_,_,rfl,by have:=HS.out;omega,Nat.lt_of_lt_of_le hn6.lt hsz,hn6.kp hk9 (hne _ (by have:=HS.out;omega)),⟨g1,rfl,by have:=HS.out;omega,Nat.lt_of_lt_of_le hn5.lt hsz,hn5.kp hk9 (hne _ (by have:=HS.out;omega))⟩,rfl⟩
     ·rw [← updL_word HCT.out,HT.out]
      exact WordsM.none.put ⟨⟨g3,0,none⟩,1,rfl,Nat.le_refl _,by have:=HS.out;show p < g3;omega,Nat.lt_of_lt_of_le hn8.lt hsz,((hn8.rd hn8.lt).kp_ne hk9 (fun ad h=>by injection h with h;subst h;exact hne _ (by have:=HS.out;show p < g3;omega))).bound hsz⟩)
    clear hn5 hn6 hn8 hB8 hkA hk9 hB9 hw9 hkB hne hsz;go_ret2;exact HF.out
end Go.Proofs.YtanacapkfllbnaaGreatDoor
