/-
  LAYER 6's REFERENCE: Of.
  CONDITIONS: at most 2^32 signs in all.
-/
import Derived.Test.YtanacapkfllbnaaGreatDoorR40
import Derived.Test.YtanacapkfllbnaaGreatDoorR36
import Derived.Test.YtanacapkfllbnaaGreatDoorR15
set_option maxRecDepth 100000
set_option maxHeartbeats 4000000
namespace Go.Proofs.YtanacapkfllbnaaGreatDoor
open Go.RowKit

def ROfP (w:World) (l:List Nat) (e:Ending) (w':World):Prop:=∃ p,e=.returned (.tuple #[.pointer (some ⟨p,0,none⟩),.int .i64 0])∧RCode w' w.heap.size w'.heap.size p (treeC (smO l) (lensL (wtO l))) ((smO l).map Int.toNat) (lensL (wtO l))∧Kp [] w w'
theorem cntV_rep:(List.replicate 257 (Value.int .i64 0)).toArray=(cntV []).toArray:=by
 rw [show List.replicate 257 (Value.int .i64 0)=cntV [] from ?_]
 apply List.ext_getElem?
 intro i;by_cases hi:i < 257
 ·rw [List.getElem?_replicate,if_pos hi,cntV_get _ hi];rfl
 ·rw [List.getElem?_eq_none (by rw [List.length_replicate];omega),List.getElem?_eq_none (by rw [cntV_len];omega)]
theorem rof_any (A:Option Addr) (n c B:Nat) (ss:List ByteArray) (w:World) (hx:Rd w B A (ss.map .string)) (hn:ss.length=n) (h1:1≤n) (hb:(symL ss).length≤4294967296) (hB:B≤w.heap.size) :
  Calls Tryz.prog 41 #[.slice A n c] w (ROfP w (symL ss)):=by
 obtain ⟨i0,hi,hz0,hz1,hz2⟩:=info_parts Tryz.info_aint
 have h0:0 ∈ symL ss:=by
  match ss,hn with
  | [],hn=>simp at hn;omega
  | s :: t,_=>rw [symL_cons];unfold symT;simp
 have HX:=Lib.hid hx;have HN:=Lib.hid hn;have HSB:=Lib.hid (show (symL ss).length≤1099511627776 by omega);have HBB:=Lib.hid hB
 have hnb:n≤1099511627776:=by
  have:=symL_ge ss;omega
 have HOK:=Lib.hid (okMake_of h0 hb);have HW:=Lib.hid (wtO_ok h0 hb);have HCB:=Lib.hid (show ∀ k,(symL ss).count k≤4294967296 from fun k=>Nat.le_trans (List.count_le_length) hb);have hn0:((n:Int) == 0)=false:=by simp;omega
 have hmk:=fun w=>run_make_list (P:=Tryz.prog) 81 3 i0 (.int .i64 0) Tryz.underlying81 hi hz0 hz1 rfl .i64 .i64 257 (by rw [hz2];omega) (by omega) w
 simp only [cntV_rep] at hmk
 simp only [show ((257:Nat):Int)=257 from rfl] at hmk
 clear hx hn h0 hb hB h1
 go_enter Tryz.func41,Tryz.ntmps41
 have hb0:=Blk.new w 3 (cntV []);have hk0:Kp [] w (w.alloc (.cells (cntV []).toArray 3)):=(Kp.refl _ _).alloc _;go_wp2_with fail;clear hmk;obtain ⟨g,hg⟩:∃ g,g=w.heap.size:=⟨_,rfl⟩;obtain ⟨w0,hw0⟩:∃ w0,w0=w.alloc (.cells (cntV []).toArray 3):=⟨_,rfl⟩;rw [← hw0] at hb0 hk0 ⊢;rw [← hg] at hb0 ⊢;have HX0:=Lib.hid (HX.out.kp0 hk0);have HB0:=Lib.hid hb0;have HK0:=Lib.hid hk0;have HG:=Lib.hid hg;clear hw0 hb0 hk0 hg HX
 go_loopw [5] (fun x wr=>∃ k:Nat,x=.int .i64 (k:Int)∧k≤n∧Hid (Blk wr g 3 (cntV (symL (ss.take k))))∧Hid (Kp [g] w0 wr)) (fun x _=>n - (intOf x).toNat)
 case atStart=>exact ⟨0,rfl,by omega,HB0,Lib.hid (Kp.refl _ _)⟩
 case round =>
  obtain ⟨k,rfl,hk,HB,HK⟩:=hrel;by_cases hlt:k < n
  ·have hkd:decide ((k:Int) < (n:Int))=true:=by simp;omega
   have hgB:∀ x ∈ [g],B≤x:=fun x hx=>by rw [List.mem_singleton.1 hx,HG.out];exact HBB.out
   obtain ⟨s,ad,hsk,rfl,_,hcs⟩:=(HX0.out.kp HK.out hgB).str (k:=k) (by rw [HN.out];exact hlt);have HSK:=Lib.hid hsk
   have HL:=Lib.hid (show (symL (ss.take k) ++ symT s).length≤1099511627776 from by
    have e:ss=ss.take k ++ s :: ss.drop (k+1):=by
     have:=List.take_append_drop k ss;rw [List.drop_eq_getElem_cons (by rw [HN.out];exact hlt),(List.getElem?_eq_some_iff.1 hsk).2] at this;exact this.symm
    have h1:=HSB.out;rw [e] at h1
    have h2:symL (ss.take k ++ s :: ss.drop (k+1))=(symL (ss.take k) ++ symT s) ++ symL (ss.drop (k+1)):=by
     unfold symL;rw [List.flatMap_append,List.flatMap_cons,List.append_assoc]
    rw [h2,List.length_append] at h1
    omega)
   have hk0':(0:Int)≤(k:Int):=by omega
   have hc0:wr.cell? ⟨g,0,none⟩=some (.int .i64 (((symL (ss.take k)).count 0:Nat):Int)):=by rw [HB.out.cell];exact cntV_get _ (by omega)
   have hf0:=HB.out.free 0;obtain ⟨z,hz⟩:∃ z,z=(symL (ss.take k)).count 0:=⟨_,rfl⟩
   have hz9:(z:Int)≤1099511627776:=by
    have:=List.count_le_length (a:=0) (l:=symL (ss.take k));have:=HL.out;rw [List.length_append] at this;omega
   have hz8:(0:Int)≤(z:Int):=by omega
   rw [← hz] at hc0
   have HB1:=Lib.hid (show Blk (wr.setCell ⟨g,0,none⟩ (.int .i64 ((z:Int)+1))) g 3 (cntV (symL (ss.take k) ++ [0])) from by
    have:=HB.out.set_ 0 (.int .i64 ((z:Int)+1));rw [hz,cntV_set _ (by omega)] at this;rw [hz]
    exact this)
   have HK1:=Lib.hid (HK.out.setCell (p:=⟨g,0,none⟩) (.inl (by simp)) (.int .i64 ((z:Int)+1)));clear hsk hz HB HK
   have hss:s.size≤1099511627776:=by
    have:=HL.out;rw [List.length_append,symT_len] at this;omega
   go_wp2_with fail;obtain ⟨w1,hw1⟩:∃ w1,w1=wr.setCell ⟨g,0,none⟩ (.int .i64 ((z:Int)+1)):=⟨_,rfl⟩;rw [← hw1] at HB1 HK1 ⊢;clear hw1 hc0 hf0 hcs
   go_loopw [6] (fun x wr=>∃ j:Nat,x=.int .i64 (j:Int)∧j≤s.size∧Hid (Blk wr g 3 (cntV (symL (ss.take k) ++ 0 :: ((txt s).take j).map (· + 1))))∧Hid (Kp [g] w0 wr)) (fun x _=>s.size - (intOf x).toNat)
   case atStart=>exact ⟨0,rfl,by omega,HB1,HK1⟩
   case round =>
    clear HB1 HK1;obtain ⟨j,rfl,hj,HB,HK⟩:=hrel
    have hcs:wr.cell? (ad.add k)=some (.string s):=by
     obtain ⟨ad1,e1,_,h9⟩:=(HX0.out.kp HK.out hgB) k (.string s) (by rw [List.getElem?_map,HSK.out];rfl);injection e1 with e1
     subst e1;exact h9
    by_cases hjt:j < s.size
    ·have hjd:decide ((j:Int) < (s.size:Int))=true:=by simp;omega
     have hj0:(0:Int)≤(j:Int):=by omega
     obtain ⟨x,hx⟩:∃ x,s[j].toNat=x:=⟨_,rfl⟩;have hx255:x≤255:=by rw [← hx];have:=s[j].toNat_lt;omega
     have HTX:=Lib.hid (show (txt s)[j]? = some x from by rw [txt_get s j hjt,hx]);have hx0:(0:Int)≤(x:Int):=by omega
     have hx1:(x:Int)≤255:=by omega
     obtain ⟨l,hl⟩:∃ l,l=symL (ss.take k) ++ 0 :: ((txt s).take j).map (· + 1):=⟨_,rfl⟩
     have HLE:=Lib.hid (show l.length≤1099511627776 from by
      have h1:=HL.out;rw [List.length_append,symT_len] at h1;rw [hl,List.length_append,List.length_cons,List.length_map,List.length_take,txt_len]
      omega)
     have HNX:=Lib.hid (show symL (ss.take k) ++ 0 :: ((txt s).take (j+1)).map (· + 1)=l ++ [x+1] from by
      rw [hl,take_snoc_ HTX.out,List.map_append,List.append_assoc]
      rfl)
     rw [← hl] at HB;obtain ⟨y,hy⟩:∃ y,y=x+1:=⟨_,rfl⟩;have hy257:y < 257:=by omega
     have hcy:wr.cell? ⟨g,y,none⟩=some (.int .i64 ((l.count y:Nat):Int)):=by rw [HB.out.cell];exact cntV_get _ hy257
     have hfy:=HB.out.free y;obtain ⟨z2,hz2⟩:∃ z2,z2=l.count y:=⟨_,rfl⟩
     have hz7:(z2:Int)≤1099511627776:=by
      have:=List.count_le_length (a:=y) (l:=l);have:=HLE.out;omega
     have hz6:(0:Int)≤(z2:Int):=by omega
     rw [← hz2] at hcy
     have HB3:=Lib.hid (show Blk (wr.setCell ⟨g,y,none⟩ (.int .i64 ((z2:Int)+1))) g 3 (cntV (symL (ss.take k) ++ 0 :: ((txt s).take (j+1)).map (· + 1))) from by
      have:=HB.out.set_ y (.int .i64 ((z2:Int)+1));rw [hz2,cntV_set _ hy257] at this;rw [hz2,HNX.out,← hy]
      exact this)
     have HK3:=Lib.hid (HK.out.setCell (p:=⟨g,y,none⟩) (.inl (by simp)) (.int .i64 ((z2:Int)+1)));have hy1:1+(x:Int)=(y:Int):=by omega
     have hy2:(0:Int)≤(y:Int):=by omega
     have hy3:(y:Int) < 257:=by omega
     clear hl hy hz2 HB HK;go_wp2_with fail;exact ⟨⟨j+1,by go_num,by omega,HB3,HK3⟩,by simp [intOf];omega⟩
    ·have hjd:decide ((j:Int) < (s.size:Int))=false:=by simp;omega
     have HBE:=Lib.hid (show Blk wr g 3 (cntV (symL (ss.take (k+1)))) from by
      have h1:=HB.out;rw [show (txt s).take j=txt s from List.take_of_length_le (by rw [txt_len];omega)] at h1;rw [take_snoc_ HSK.out,symL_snoc]
      exact h1)
     clear HB;go_wp2_with fail;exact ⟨⟨k+1,by go_num,by omega,HBE,HK⟩,by simp [intOf];omega⟩
  ·obtain rfl:n=k:=by omega
   have HBE:=Lib.hid (show Blk wr g 3 (cntV (symL ss)) from by
    have h1:=HB.out
    rwa [List.take_of_length_le (by rw [HN.out];exact Nat.le_refl _)] at h1)
   have HK1:=Lib.hid (HK0.out.trans' HK.out (fun x hx=>.inr (by rw [List.mem_singleton.1 hx,HG.out];exact Nat.le_refl _)));obtain ⟨l,hl⟩:∃ l,l=symL ss:=⟨_,rfl⟩;rw [← hl] at HBE HW HOK HCB;have HLE:=Lib.hid hl;obtain ⟨w1,hw1⟩:∃ w1,w1=wr:=⟨_,rfl⟩;rw [← hw1] at HBE HK1 ⊢;have hkd:decide ((n:Int) < (n:Int))=false:=by simp
   clear HB HK HB0 HK0 HX0 hl hw1 HSB hlt hk;go_wp2_with fail
   go_loopw [7,8,9] (fun y z x wr=>∃ (k m c1 c2:Nat) (A1 A2:Option Addr),x=.int .i64 (k:Int)∧y=.slice A1 m c1∧z=.slice A2 m c2∧k≤257∧m≤k∧Hid ((sgK l k).length=m)∧Hid (Pair wr w1.heap.size (.slice A1 m c1) (.slice A2 m c2) m m (smK l k) (wtK l k))∧Hid (Kp [] w1 wr)) (fun _ _ x _=>257 - (intOf x).toNat)
   case atStart=>exact ⟨0,0,0,0,none,none,rfl,rfl,rfl,by omega,by omega,Lib.hid rfl,Lib.hid (Pair.nil _ _),Lib.hid (Kp.refl _ _)⟩
   case round =>
    obtain ⟨k,m,c1,c2,A1,A2,rfl,rfl,rfl,hk,hmk,HM,HP,HK⟩:=hrel;by_cases hlt:k < 257
    ·have hix:wr.cell? ⟨g,k,none⟩=some (.int .i64 ((l.count k:Nat):Int)):=by rw [(HBE.out.kp0 HK.out).cell];exact cntV_get _ hlt
     have hcb:=HCB.out k;have hk0:(0:Int)≤(k:Int):=by omega
     obtain ⟨z,hz⟩:∃ z,z=l.count k:=⟨_,rfl⟩;rw [← hz] at hix hcb;have HZ:=Lib.hid hz;clear hz;by_cases hz0':0 < z
     ·have hzd:decide ((0:Int) < (z:Int))=true:=by simp;omega
      have HSZ:=Lib.hid HK.out.size;have HS1:=Lib.hid (show sgK l (k+1)=sgK l k ++ [k] from sgK_yes (by rw [← HZ.out];exact hz0'))
      go_wp2_with (first
       | (at_builtin;refine wpList_append_rd rfl (.tmp 58) (.tmp 60) 81 rfl w1.heap.size 3 i0 (.int .i64 0) 1 8 Tryz.underlying81 hi hz0 hz1 hz2 rfl (by decide) (.slice A1 m c1) m _ rfl (own_kp0 HP.out.o1 ((Kp.refl [] _).alloc _)) _ _ 1 1 [.int .i64 (k:Int)] rfl rfl (Rd.new wr #[.int .i64 (k:Int)] 3 (0,0)) (by intro u hu;simp at hu;subst hu;rfl) (by unfold maxLen;omega) (by omega) (by have:=HSZ.out;simp;omega) ?_;intro v2 w2 hown2 hgrow2 hat2
          obtain ⟨A3,c3,rfl,_⟩:=own_form hown2;have HP2:=Lib.hid (HP.out.left hown2 hgrow2 hat2).swap;have HK2:=Lib.hid (HP.out.keep HK.out hgrow2 rfl);have HSZ2:=Lib.hid HK2.out.size;have hix2:w2.cell? ⟨g,k,none⟩=some (.int .i64 (z:Int)):=by rw [(HBE.out.kp0 HK2.out).cell,HZ.out];exact cntV_get _ hlt
          clear hown2 hgrow2 hat2 HP HK)
       | (at_builtin;refine wpList_append_rd rfl (.tmp 62) (.tmp 67) 81 rfl w1.heap.size 3 i0 (.int .i64 0) 1 8 Tryz.underlying81 hi hz0 hz1 hz2 rfl (by decide) (.slice A2 m c2) m _ rfl (own_kp0 HP2.out.o1 ((Kp.refl [] _).alloc _)) _ _ 1 1 [.int .i64 (z:Int)] rfl rfl (Rd.new w2 #[.int .i64 (z:Int)] 3 (0,0)) (by intro u hu;simp at hu;subst hu;rfl) (by unfold maxLen;omega) (by omega) (by have:=HSZ2.out;simp;omega) ?_;intro v3 w3 hown3 hgrow3 hat3
          obtain ⟨A4,c4,rfl,_⟩:=own_form hown3;have HP3:=Lib.hid (HP2.out.left hown3 hgrow3 hat3).swap;have HK3:=Lib.hid (HP2.out.keep HK2.out hgrow3 rfl)
          clear hown3 hgrow3 hat3 HP2 HK2))
      exact ⟨⟨k+1,m+1,c3,c4,A3,A4,by go_num,rfl,rfl,by omega,by omega,Lib.hid (by rw [HS1.out,List.length_append,HM.out];rfl),Lib.hid (by unfold smK wtK;rw [HS1.out,List.map_append,List.map_append];rw [HZ.out] at HP3;exact HP3.out),HK3⟩,by simp [intOf];omega⟩
     ·obtain rfl:z=0:=by omega
      have HS1:=Lib.hid (show sgK l (k+1)=sgK l k from sgK_no HZ.out.symm);clear hz0';go_wp2_with fail;exact ⟨⟨k+1,m,c1,c2,A1,A2,by go_num,rfl,rfl,by omega,by omega,Lib.hid (by rw [HS1.out];exact HM.out),Lib.hid (by unfold smK wtK;rw [HS1.out];exact HP.out),HK⟩,by simp [intOf];omega⟩
    ·obtain rfl:k=257:=by omega
     have HMS:=Lib.hid (show (smO l).length=m∧(wtO l).length=m from ⟨by unfold smO smK;rw [List.length_map,HM.out],by unfold wtO wtK;rw [List.length_map,HM.out]⟩);have HX1:=Lib.hid (show Rd wr wr.heap.size A1 ((smO l).map (.int .i64)) from own_rd HP.out.o1);have HX2:=Lib.hid (show Rd wr wr.heap.size A2 ((wtO l).map (.int .i64)) from own_rd HP.out.o2);have HKW:=Lib.hid (HK1.out.trans HK.out);clear HP HK HM HCB HK1 hlt hk HBE;go_wp2_with fail;refine (rlengths_any A2 m c2 _ (wtO l) wr HX2.out HMS.out.2 (by omega)).mono ?_;rintro e w3 ⟨A5,m5,c5,hm5,rfl,hown5,hk5⟩;rw [lensE_ok HW.out];have hmm:m5=m:=by rw [hm5,← HMS.out.1];exact HOK.out.1.symm
     subst hmm;have HL5:=Lib.hid (show (lensL (wtO l)).length=m5 from hm5.symm);have HX5:=Lib.hid (own_rd hown5);have HX15:=Lib.hid (HX1.out.kp0 hk5);have HK5:=Lib.hid (HKW.out.trans hk5);clear hk5 hown5 hm5 HX1 HX2;go_wp2_with fail;refine (rmake_any A1 A5 m5 c1 c5 _ _ (smO l) (lensL (wtO l)) w3 HX15.out HX5.out HMS.out.1 HL5.out (by omega) (fun x hx=>by have:=okF_range HOK.out.2.1 x hx;omega) HOK.out.2.1).mono ?_;rintro e w4 ⟨hyes,_,hk4⟩;obtain ⟨p,rfl,hcode⟩:=hyes HOK.out;have HF:=Lib.hid (show ROfP w (symL ss) (.returned (.tuple #[.pointer (some ⟨p,0,none⟩),.int .i64 0])) w4 from by rw [← HLE.out];exact ⟨p,rfl,hcode.low HK5.out.size,HK5.out.trans hk4⟩);clear hyes hk4 hcode;go_wp2_with fail;go_ret2;exact HF.out
end Go.Proofs.YtanacapkfllbnaaGreatDoor
