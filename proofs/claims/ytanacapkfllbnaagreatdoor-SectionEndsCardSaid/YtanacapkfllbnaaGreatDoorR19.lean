/-
  LAYER 1: the place of a one, by how many stand below it.
  LAYER 1: what a vector tells.
  LAYER 1: a vector is made.
  LAYER 1: a vector's bytes.
  PLAIN MATHEMATICS OF LAYER 1, second part: bytes as one number; the bits of a number.
  LAYER 1: the calls on a vector that is counted: nothing that was there changes.
  BitsRanks: the walk.
  LAYER 1: Read: a vector of bytes.
  LAYER 1's REFERENCE: the document's vector in memory; Get, Rank, Select, Bytes.
  LAYER 1's REFERENCE: Select, Bytes.
  LAYER 1's REFERENCE: New, Read.
  THE RELATION OF WORLDS ALONG A REGION THAT MAY COUNT A VECTOR.
  LAYER 1: same: a vector and the document's, of the same bits, are found to be the same.
  CONDITIONS: as each lemma says.
-/
import Derived.Test.YtanacapkfllbnaaGreatDoorR18
import Derived.Test.YtanacapkfllbnaaGreatDoorR00
import Derived.Test.YtanacapkfllbnaaGreatDoorR04
import Derived.StillTailTactics
set_option maxRecDepth 100000
set_option maxHeartbeats 4000000
namespace Go.Proofs.YtanacapkfllbnaaGreatDoor
open Go.RowKit

theorem clrN_zero (l:List Bool):clrN 0 l=l:=by cases l <;> rfl
theorem wordL_sel {bs:List Bool} {wd k i:Nat} (h:IsSel (wordL bs wd) k i):IsSel bs (k+cntI bs (64 * wd)) (64 * wd+i):=(IsSel.take h).drop
theorem wordL_count (bs:List Bool) (k:Nat):popN 64 (bitN (wordL bs k))=(wordL bs k).count true:=popN_bitN 64 _ (wordL_len bs k)

theorem bfind_any (S:List Nat) (p k:Nat) (bs:List Bool) (w:World) (h:VecM w S p bs true) (hk:k < bs.count true) (ht:Tab64 w) :
  Calls Tryz.prog 164 #[.pointer (some ⟨p,0,none⟩),.int .i64 k] w fun e w'=>∃ i:Nat,e=.returned (.int .i64 (i:Int))∧IsSel bs k i∧Kp [] w w':=by
 have HV:=Lib.hid h;clear h;have HKC:=Lib.hid hk;clear hk;have HT:=Lib.hid ht;clear ht;obtain ⟨_,_,_,hnb⟩:=HV.out.tail;have HNB:=Lib.hid hnb;clear hnb;obtain ⟨R,hR⟩:∃ R,R=rowsOf bs.length:=⟨_,rfl⟩;have hRb:1≤R∧R≤40000:=by have:=HNB.out;unfold rowsOf at hR;omega
 have HR:=Lib.hid hR;clear hR;have hkb:k≤16777216:=by have:=HKC.out;have:=List.count_le_length (a:=true) (l:=bs);have:=HNB.out;omega
 obtain ⟨ga,ca,c1,hca⟩:=HV.out.ahead;obtain ⟨g,c0,hcw⟩:=HV.out.words;obtain ⟨m,hm⟩:∃ m,m=wordsOf bs.length:=⟨_,rfl⟩;have hmb:m≤262144:=by have:=HNB.out;unfold wordsOf at hm;omega
 rw [← HR.out] at c1 hca;rw [← hm] at c0 hcw;have HC1:=Lib.hid c1;have HC0:=Lib.hid c0;have HCA:=Lib.hid hca;have HCW:=Lib.hid hcw;have HM:=Lib.hid hm;clear hca hcw hm c0
 have c1w:((w.alloc (.cells #[.pointer (some ⟨p,0,none⟩)] 242)).alloc (.cells #[.int .i64 (k:Int)] 3)).cell? ⟨p,1,none⟩=some (.slice (some ⟨ga,0,none⟩) R ca):=
  (((Kp.refl [] w).alloc (.cells #[.pointer (some ⟨p,0,none⟩)] 242)).alloc (.cells #[.int .i64 (k:Int)] 3)).cell c1 (by simp)
 clear c1;obtain ⟨b1,hb1⟩:∃ b1,b1=w.heap.size:=⟨_,rfl⟩
 go_enter Tryz.func164,Tryz.ntmps164
 go_wp2_with fail;obtain ⟨w1,hw1⟩:∃ w1,w1=(w.alloc (.cells #[.pointer (some ⟨p,0,none⟩)] 242)).alloc (.cells #[.int .i64 (k:Int)] 3):=⟨_,rfl⟩;have HK1:=Lib.hid (show Kp [] w w1 by rw [hw1];exact ((Kp.refl [] w).alloc _).alloc _)
 have HB1:=Lib.hid (show Blk w1 b1 242 [.pointer (some ⟨p,0,none⟩)] by
  rw [hw1,hb1]
  exact (Blk.new w 242 [.pointer (some ⟨p,0,none⟩)]).alloc _)
 have HB2:=Lib.hid (show Blk w1 (b1+1) 3 [.int .i64 (k:Int)] by
  rw [hw1,hb1];have h:=Blk.new (w.alloc (.cells #[.pointer (some ⟨p,0,none⟩)] 242)) 3 [.int .i64 (k:Int)];rw [show (w.alloc (.cells #[.pointer (some ⟨p,0,none⟩)] 242)).heap.size=w.heap.size+1 by simp] at h
  exact h)
 have HBW:=Lib.hid (show w.heap.size≤b1 by omega);rw [← hw1,← hb1];clear hw1 hb1 c1w;refine (search_any 177 R _ (fun r=>decide (k < cntI bs (512 * r))) w1 (enters_fn Tryz.func177 (by kernel_rfl) rfl) (by omega) (fun w' r hd hr=>?_) (fun a b' hab hbn hp=>?_)).mono ?_
 ·exact bfindc_any S p k r b1 (b1+1) bs w' (HV.out.kp0 (HK1.out.trans (hd.kp []))) (by rw [← HR.out];exact hr) (by rw [hd.cell];exact HB1.out.cell 0) (by rw [hd.cell];exact HB2.out.cell 0)
 ·simp only [decide_eq_true_eq] at hp ⊢
  exact Nat.lt_of_lt_of_le hp (cntI_mono bs (by omega))
 rintro e w2 ⟨r,rfl,hrR,hlo,hhi,hd⟩
 obtain ⟨row,hrow⟩:∃ row,r=row+1:=by
  refine ⟨r - 1,?_⟩;rcases Nat.eq_zero_or_pos r with h0 | h0
  ·subst h0;have:=of_decide_eq_true (hhi 0 (Nat.le_refl _) (by omega))
   simp [cntI] at this
  ·omega
 have hrow2:row+1 < R:=by
  rcases Nat.lt_or_ge r R with h | h
  ·omega
  ·have h1:=of_decide_eq_false (hlo row (by omega));have h2:=HKC.out;have h3:=HR.out;unfold rowsOf at h3;rw [cntI_all (by omega)] at h1;exact absurd h2 h1
 have hA:cntI bs (512 * row)≤k:=by have:=of_decide_eq_false (hlo row (by omega));omega
 have hB:k < cntI bs (512 * (row+1)):=by
  have:=of_decide_eq_true (hhi (row+1) (by omega) hrow2);exact this
 have HK2:=Lib.hid (HK1.out.trans (hd.kp []));have HD1:=Lib.hid (HB1.out.kp0 (hd.kp []));have HD2:=Lib.hid (HB2.out.kp0 (hd.kp []));have HHB:=Lib.hid hB;have hwr:IntKind.i64.wrap ((r:Int) - 1)=(row:Int):=by rw [IntKind.wrap_i64];omega
 have hw8:IntKind.i64.wrap ((row:Int) * 8)=((8 * row:Nat):Int):=by rw [IntKind.wrap_i64];omega
 obtain ⟨N,hN⟩:∃ N,N=cntI bs (512 * row):=⟨_,rfl⟩;have crow:=HK2.out.cell (HCA.out row (by omega)) (by simp);rw [← hN] at crow hA;have e1:=HK2.out.cell HC1.out (by simp);have d1:=HD1.out.cell 0;have d2:=HD2.out.cell 0;have df:=HD2.out.free 0;simp only [List.getElem?_cons_zero] at d1 d2
 obtain ⟨k0,hk0⟩:∃ k0,k0=k - N:=⟨_,rfl⟩;have hwk:IntKind.i64.wrap ((k:Int) - (N:Int))=(k0:Int):=by rw [IntKind.wrap_i64];omega
 have hrowi:(row:Int) < (R:Int):=by omega
 have HN:=Lib.hid hN;have HK0:=Lib.hid (show k0+cntI bs (64 * (8 * row))=k by rw [show 64 * (8 * row)=512 * row by omega,← HN.out];omega);have hrow9:row≤40000:=by omega
 have hk09:k0≤16777216:=by omega
 clear hlo hhi hd hB hN hA hk0 hrow hrow2 hrR HB1 HB2 HK1;go_wp2_with fail
 go_region
 go_wp2_with fail;have HKA:=Lib.hid (HK2.out.setCell (p:=⟨b1+1,0,none⟩) (.inr (by have:=HBW.out;show w.heap.size≤b1+1;omega)) (.int .i64 (k0:Int))).drew;have HDA:=Lib.hid (HD2.out.set_ 0 (.int .i64 (k0:Int))).drew;have HDB:=Lib.hid (HD1.out.far (p:=⟨b1+1,0,none⟩) (by show b1 ≠ b1+1;omega) (.int .i64 (k0:Int))).drew;clear crow e1 d1 d2 df
 go_loopw [6] (fun x wr=>∃ wd k1:Nat,x=.int .i64 (wd:Int)∧k1≤16777216∧wd≤8 * row+8∧Hid (k1+cntI bs (64 * wd)=k)∧Hid (Blk wr b1 242 [.pointer (some ⟨p,0,none⟩)])∧Hid (Blk wr (b1+1) 3 [.int .i64 (k1:Int)])∧Hid (Kp [] w wr)) (fun x _=>8 * row+8 - (intOf x).toNat)
 case atStart=>exact ⟨8 * row,k0,rfl,by omega,by omega,HK0,HDB,HDA,HKA⟩
 case round =>
  clear HKA HDA HDB HD1 HD2 HK2 HK0;obtain ⟨wd,k1,rfl,hk19,hwd,HK1,HD1,HD2,HK⟩:=hrel
  have hwdb:wd < 8 * row+8:=by
   rcases Nat.lt_or_ge wd (8 * row+8) with h | h
   ·exact h
   ·exfalso
    have h1:=cntI_mono bs (show 512 * (row+1)≤64 * wd by omega);have h2:=HHB.out;have h3:=HK1.out;omega
  have hwm:wd < m:=by
   rcases Nat.lt_or_ge wd m with h | h
   ·exact h
   ·exfalso
    have h1:=HM.out;unfold wordsOf at h1;have h2:=HK1.out;rw [cntI_all (show bs.length≤64 * wd by omega)] at h2;have h3:=HKC.out;omega
  have hwmi:(wd:Int) < (m:Int):=by omega
  have d1:=HD1.out.cell 0;have d2:=HD2.out.cell 0;have df:=HD2.out.free 0;simp only [List.getElem?_cons_zero] at d1 d2
  have e0:=HK.out.cell HC0.out (by simp);have ex:=HK.out.cell (HCW.out wd hwm) (by simp);obtain ⟨x,hx⟩:∃ x,x=bitN (wordL bs wd):=⟨_,rfl⟩;have hxb:x < 2 ^ 64:=by rw [hx];exact bitN_wordL_lt _ _
  rw [← hx] at ex;obtain ⟨pp,hpp⟩:∃ pp,pp=popN 64 x:=⟨_,rfl⟩;have HX:=Lib.hid hx;have HPP:=Lib.hid (show pp=(wordL bs wd).count true by rw [hpp,hx,wordL_count]);have HPC:=Lib.hid (show cntI bs (64 * (wd+1))=cntI bs (64 * wd)+pp by rw [hpp,hx];exact wordL_pop bs wd)
  have HON:=Lib.hid (show ∀ w':World,Calls Tryz.prog 178 #[.int .u64 x] w' fun e w''=>e=.returned (.int .i64 (pp:Int))∧w'=w'' from fun w'=>by
   have:=ones_any x w' hxb;rw [← hpp] at this
   exact this)
  have hwd9:wd≤400000:=by omega
  clear hx hxb hpp;by_cases hge:pp≤k1
  ·have hdk:decide ((pp:Int)≤(k1:Int))=true:=by simp;exact hge
   obtain ⟨k2,hk2⟩:∃ k2,k2=k1 - pp:=⟨_,rfl⟩;have hwk2:IntKind.i64.wrap ((k1:Int) - (pp:Int))=(k2:Int):=by rw [IntKind.wrap_i64];omega
   have HK2:=Lib.hid (show k2+cntI bs (64 * (wd+1))=k by have h1:=HK1.out;have h2:=HPC.out;omega);have hk29:k2≤16777216:=by omega
   clear hk2
   go_upto_region 4 with fail
   refine wp_region_facts (by kernel_rfl) 69 [27,28,29,30,31,32,33,34,35,36] [[],[],[28],[29],[30],[],[31,32],[33],[34],[27,35]] (by kernel_rfl) (by kernel_rfl) rfl (factOf [(27,.eq (.int .i64 (k1:Int))),(28,.eq (.pointer (some ⟨p,0,none⟩))),(29,.eq (.pointer (some ⟨p,0,none⟩))),(30,.eq (.pointer (some ⟨p,0,none⟩))),(31,.eq (.slice (some ⟨g,0,none⟩) m m)),(32,.eq (.int .i64 (wd:Int))),(33,.eq (.pointer (some ⟨g,wd,none⟩))),(34,.eq (.int .u64 (x:Int))),(35,.eq (.int .i64 (pp:Int))),(36,.eq (.bool true))]) (factOf_stable _) _ (fun x=>by simp only [fillL,Nat.reduceAdd,Nat.reduceEqDiff,↓reduceIte];rfl) ?_ ?_
   ·refine ⟨?_,?_,?_,?_,?_,?_,?_,?_,?_,?_,trivial⟩
    ·intro fx w' fa hk hd ev;have e3:fa.tmps[3]?.getD undef=.pointer (some ⟨b1+1,0,none⟩):=ev.old 3 rfl;refine stepF_un rfl (fun K hK=>?_);have cx:=hk.cell (p:=⟨b1+1,0,none⟩) d2 (by simp);go_simp;exact hK _ _ rfl (Kp.refl _ _)
    ·intro fx w' fa hk hd ev;have e2:fa.tmps[2]?.getD undef=.pointer (some ⟨b1,0,none⟩):=ev.old 2 rfl;refine stepF_un rfl (fun K hK=>?_);have cx:=hk.cell (p:=⟨b1,0,none⟩) d1 (by simp);go_simp;exact hK _ _ rfl (Kp.refl _ _)
    ·intro fx w' fa hk hd ev;have e28:=(ev.new 28 rfl).trans (show fx 28=.pointer (some ⟨p,0,none⟩) from hd.1);refine stepF_un rfl (fun K hK=>?_);go_simp;exact hK _ _ rfl (Kp.refl _ _)
    ·intro fx w' fa hk hd ev;have e29:=(ev.new 29 rfl).trans (show fx 29=.pointer (some ⟨p,0,none⟩) from hd.1);refine stepF_un rfl (fun K hK=>?_);go_simp;exact hK _ _ rfl (Kp.refl _ _)
    ·intro fx w' fa hk hd ev;have e30:=(ev.new 30 rfl).trans (show fx 30=.pointer (some ⟨p,0,none⟩) from hd.1);refine stepF_un rfl (fun K hK=>?_);have cx:=hk.cell (p:=⟨p,0,none⟩) e0 (by simp);go_simp;exact hK _ _ rfl (Kp.refl _ _)
    ·intro fx w' fa hk hd ev;have e6:fa.tmps[6]?.getD undef=.int .i64 (wd:Int):=ev.old 6 rfl;refine stepF_un rfl (fun K hK=>?_);exact stepF_val _ hK (run_move rfl e6 _) rfl
    ·intro fx w' fa hk hd ev;have e31:=(ev.new 31 rfl).trans (show fx 31=.slice (some ⟨g,0,none⟩) m m from hd.1);have e32:=(ev.new 32 rfl).trans (show fx 32=.int .i64 (wd:Int) from hd.2.1);refine stepF_un rfl (fun K hK=>?_);have hz0:(0:Int)≤(wd:Int):=by omega
     go_simp;exact hK _ _ rfl (Kp.refl _ _)
    ·intro fx w' fa hk hd ev;have e33:=(ev.new 33 rfl).trans (show fx 33=.pointer (some ⟨g,wd,none⟩) from hd.1);refine stepF_un rfl (fun K hK=>?_);have cx:=hk.cell (p:=⟨g,wd,none⟩) ex (by simp);go_simp;exact hK _ _ rfl (Kp.refl _ _)
    ·intro fx w' fa hk hd ev;have e34:=(ev.new 34 rfl).trans (show fx 34=.int .u64 (x:Int) from hd.1);refine stepF_un rfl (fun K hK=>?_);go_simp;refine (HON.out _).mono ?_;rintro e w1 ⟨rfl,rfl⟩;exact hK _ _ rfl (Kp.refl _ _)
    ·intro fx w' fa hk hd ev;have e27:=(ev.new 27 rfl).trans (show fx 27=.int .i64 (k1:Int) from hd.1);have e35:=(ev.new 35 rfl).trans (show fx 35=.int .i64 (pp:Int) from hd.2.1);refine stepF_un rfl (fun K hK=>?_);go_simp;exact hK _ _ rfl (Kp.refl _ _)
   ·intro fx w' hk hd;have h27:fx 27=.int .i64 (k1:Int):=hd.1;have h28:fx 28=.pointer (some ⟨p,0,none⟩):=hd.2.1;have h29:fx 29=.pointer (some ⟨p,0,none⟩):=hd.2.2.1;have h30:fx 30=.pointer (some ⟨p,0,none⟩):=hd.2.2.2.1;have h31:fx 31=.slice (some ⟨g,0,none⟩) m m:=hd.2.2.2.2.1;have h32:fx 32=.int .i64 (wd:Int):=hd.2.2.2.2.2.1;have h33:fx 33=.pointer (some ⟨g,wd,none⟩):=hd.2.2.2.2.2.2.1;have h34:fx 34=.int .u64 (x:Int):=hd.2.2.2.2.2.2.2.1;have h35:fx 35=.int .i64 (pp:Int):=hd.2.2.2.2.2.2.2.2.1;have h36:fx 36=.bool true:=hd.2.2.2.2.2.2.2.2.2.1;rw [h36];have HK3:=Lib.hid (HK.out.trans hk);have HE1:=Lib.hid (HD1.out.kp0 hk);have HE2:=Lib.hid (HD2.out.kp0 hk);have f1:w'.cell? ⟨b1,0,none⟩=some (.pointer (some ⟨p,0,none⟩)):=HE1.out.cell 0;have f2:w'.cell? ⟨b1+1,0,none⟩=some (.int .i64 (k1:Int)):=HE2.out.cell 0;have ff:=HE2.out.free 0;have g0:=hk.cell e0 (by simp);have gx:=hk.cell ex (by simp);clear hk hd d1 d2 df e0 ex HD1 HD2 HK;go_wp2_with fail;refine wp_region_still_tail 10 (by kernel_rfl) (by kernel_rfl) ?_;simp only [List.take_succ_cons,List.take_zero,List.drop_succ_cons,List.drop_zero]
    repeat still_step
    refine wpStill_step (fun K hK=>?_);go_simp;refine ⟨_,((HON.out _).mono (fun e w2 h=>⟨h.1,h.2.symm⟩)),hK _ ?_⟩;clear hK K
    repeat still_step
    refine wpStill_nil ?_
    change wpList _ _ _ _ _ w'.drew
    go_wp2_with fail;have hs1:=(HE1.out.far (p:=⟨b1+1,0,none⟩) (by show b1 ≠ b1+1;omega) (.int .i64 (k2:Int))).drew;have hs2:=(HE2.out.set_ 0 (.int .i64 (k2:Int))).drew;have hs3:=(HK3.out.setCell (p:=⟨b1+1,0,none⟩) (.inr (by have:=HBW.out;show w.heap.size≤b1+1;omega)) (.int .i64 (k2:Int))).drew;exact ⟨⟨wd+1,k2,by go_num,by omega,by omega,HK2,Lib.hid hs1,Lib.hid hs2,Lib.hid hs3⟩,by simp [intOf];omega⟩
  ·have hdk:decide ((pp:Int)≤(k1:Int))=false:=by simp;omega
   go_upto_region 4 with fail
   refine wp_region_facts (by kernel_rfl) 69 [27,28,29,30,31,32,33,34,35,36] [[],[],[28],[29],[30],[],[31,32],[33],[34],[27,35]] (by kernel_rfl) (by kernel_rfl) rfl (factOf [(27,.eq (.int .i64 (k1:Int))),(28,.eq (.pointer (some ⟨p,0,none⟩))),(29,.eq (.pointer (some ⟨p,0,none⟩))),(30,.eq (.pointer (some ⟨p,0,none⟩))),(31,.eq (.slice (some ⟨g,0,none⟩) m m)),(32,.eq (.int .i64 (wd:Int))),(33,.eq (.pointer (some ⟨g,wd,none⟩))),(34,.eq (.int .u64 (x:Int))),(35,.eq (.int .i64 (pp:Int))),(36,.eq (.bool false))]) (factOf_stable _) _ (fun x=>by simp only [fillL,Nat.reduceAdd,Nat.reduceEqDiff,↓reduceIte];rfl) ?_ ?_
   ·refine ⟨?_,?_,?_,?_,?_,?_,?_,?_,?_,?_,trivial⟩
    ·intro fx w' fa hk hd ev;have e3:fa.tmps[3]?.getD undef=.pointer (some ⟨b1+1,0,none⟩):=ev.old 3 rfl;refine stepF_un rfl (fun K hK=>?_);have cx:=hk.cell (p:=⟨b1+1,0,none⟩) d2 (by simp);go_simp;exact hK _ _ rfl (Kp.refl _ _)
    ·intro fx w' fa hk hd ev;have e2:fa.tmps[2]?.getD undef=.pointer (some ⟨b1,0,none⟩):=ev.old 2 rfl;refine stepF_un rfl (fun K hK=>?_);have cx:=hk.cell (p:=⟨b1,0,none⟩) d1 (by simp);go_simp;exact hK _ _ rfl (Kp.refl _ _)
    ·intro fx w' fa hk hd ev;have e28:=(ev.new 28 rfl).trans (show fx 28=.pointer (some ⟨p,0,none⟩) from hd.1);refine stepF_un rfl (fun K hK=>?_);go_simp;exact hK _ _ rfl (Kp.refl _ _)
    ·intro fx w' fa hk hd ev;have e29:=(ev.new 29 rfl).trans (show fx 29=.pointer (some ⟨p,0,none⟩) from hd.1);refine stepF_un rfl (fun K hK=>?_);go_simp;exact hK _ _ rfl (Kp.refl _ _)
    ·intro fx w' fa hk hd ev;have e30:=(ev.new 30 rfl).trans (show fx 30=.pointer (some ⟨p,0,none⟩) from hd.1);refine stepF_un rfl (fun K hK=>?_);have cx:=hk.cell (p:=⟨p,0,none⟩) e0 (by simp);go_simp;exact hK _ _ rfl (Kp.refl _ _)
    ·intro fx w' fa hk hd ev;have e6:fa.tmps[6]?.getD undef=.int .i64 (wd:Int):=ev.old 6 rfl;refine stepF_un rfl (fun K hK=>?_);exact stepF_val _ hK (run_move rfl e6 _) rfl
    ·intro fx w' fa hk hd ev;have e31:=(ev.new 31 rfl).trans (show fx 31=.slice (some ⟨g,0,none⟩) m m from hd.1);have e32:=(ev.new 32 rfl).trans (show fx 32=.int .i64 (wd:Int) from hd.2.1);refine stepF_un rfl (fun K hK=>?_);have hz0:(0:Int)≤(wd:Int):=by omega
     go_simp;exact hK _ _ rfl (Kp.refl _ _)
    ·intro fx w' fa hk hd ev;have e33:=(ev.new 33 rfl).trans (show fx 33=.pointer (some ⟨g,wd,none⟩) from hd.1);refine stepF_un rfl (fun K hK=>?_);have cx:=hk.cell (p:=⟨g,wd,none⟩) ex (by simp);go_simp;exact hK _ _ rfl (Kp.refl _ _)
    ·intro fx w' fa hk hd ev;have e34:=(ev.new 34 rfl).trans (show fx 34=.int .u64 (x:Int) from hd.1);refine stepF_un rfl (fun K hK=>?_);go_simp;refine (HON.out _).mono ?_;rintro e w1 ⟨rfl,rfl⟩;exact hK _ _ rfl (Kp.refl _ _)
    ·intro fx w' fa hk hd ev;have e27:=(ev.new 27 rfl).trans (show fx 27=.int .i64 (k1:Int) from hd.1);have e35:=(ev.new 35 rfl).trans (show fx 35=.int .i64 (pp:Int) from hd.2.1);refine stepF_un rfl (fun K hK=>?_);go_simp;exact hK _ _ rfl (Kp.refl _ _)
   ·intro fx w' hk hd;have h27:fx 27=.int .i64 (k1:Int):=hd.1;have h28:fx 28=.pointer (some ⟨p,0,none⟩):=hd.2.1;have h29:fx 29=.pointer (some ⟨p,0,none⟩):=hd.2.2.1;have h30:fx 30=.pointer (some ⟨p,0,none⟩):=hd.2.2.2.1;have h31:fx 31=.slice (some ⟨g,0,none⟩) m m:=hd.2.2.2.2.1;have h32:fx 32=.int .i64 (wd:Int):=hd.2.2.2.2.2.1;have h33:fx 33=.pointer (some ⟨g,wd,none⟩):=hd.2.2.2.2.2.2.1;have h34:fx 34=.int .u64 (x:Int):=hd.2.2.2.2.2.2.2.1;have h35:fx 35=.int .i64 (pp:Int):=hd.2.2.2.2.2.2.2.2.1;have h36:fx 36=.bool false:=hd.2.2.2.2.2.2.2.2.2.1;rw [h36];have HK3:=Lib.hid (HK.out.trans hk);have HE1:=Lib.hid (HD1.out.kp0 hk);have HE2:=Lib.hid (HD2.out.kp0 hk);have f1:w'.cell? ⟨b1,0,none⟩=some (.pointer (some ⟨p,0,none⟩)):=HE1.out.cell 0;have f2:w'.cell? ⟨b1+1,0,none⟩=some (.int .i64 (k1:Int)):=HE2.out.cell 0;have ff:=HE2.out.free 0;have g0:=hk.cell e0 (by simp);have gx:=hk.cell ex (by simp);clear hk hd d1 d2 df e0 ex HD1 HD2 HK;have HCL:=Lib.hid (clrN_zero (wordL bs wd));go_wp2_with fail;have HLT:=Lib.hid (show k1 < (wordL bs wd).count true by rw [← HPP.out];omega);have HLC:=Lib.hid (show (wordL bs wd).count true≤64 from Nat.le_trans List.count_le_length (wordL_len bs wd));obtain ⟨l,hl⟩:∃ l,l=wordL bs wd:=⟨_,rfl⟩;rw [← hl] at HX HPP HCL HLT HLC;have HLL:=Lib.hid (show l.length≤64 by rw [hl];exact wordL_len bs wd);have HL:=Lib.hid hl;clear hl;have HPM:=Lib.hid (show ∀ j,popN 64 (bitN (clrN j l))=l.count true - j from fun j=>by rw [popN_bitN 64 _ (by rw [clrN_len];exact HLL.out),clrN_count])
    go_loopw [7] (fun x wr=>∃ j k2:Nat,x=.int .u64 ((bitN (clrN j l):Nat):Int)∧j+k2=k1∧Hid (Blk wr (b1+1) 3 [.int .i64 (k2:Int)])∧Hid (Kp [] w wr)) (fun x _=>popN 64 (intOf x).toNat)
    case atStart=>exact ⟨0,k1,by rw [HCL.out,← HX.out],by omega,HE2,HK3⟩
    case round =>
     clear HE2 HK3 f1 f2 ff g0 gx;obtain ⟨j,k2,rfl,hjk,HE2,HK3⟩:=hrel;have f2:wr.cell? ⟨b1+1,0,none⟩=some (.int .i64 (k2:Int)):=HE2.out.cell 0;have ff:=HE2.out.free 0;have HXL:=Lib.hid (show bitN (clrN j l) < 2 ^ 64 from Nat.lt_of_lt_of_le (bitN_lt _) (Nat.pow_le_pow_right (by omega) (by rw [clrN_len];exact HLL.out)));have hjl:j < l.count true:=by have:=HLT.out;omega
     have hcp:0 < (clrN j l).count true:=by rw [clrN_count];omega
     rcases Nat.eq_zero_or_pos k2 with h0 | h0
     ·subst h0;obtain rfl:j=k1:=by omega
      have HTB:=Lib.hid (HT.out.kp0 HK3.out);have hft:=ft_lt hcp;rw [clrN_len] at hft;obtain ⟨t,htt⟩:∃ t,t=ft (clrN j l):=⟨_,rfl⟩;rw [← htt] at hft
      have HSEL:=Lib.hid (show IsSel bs k (64 * wd+t) by
       have h1:=sel_clr (l:=l) (k:=j) hjl;rw [← htt,HL.out] at h1;have h2:=wordL_sel h1
       rwa [HK1.out] at h2)
      have ht64:t < 64:=by have:=HLL.out;omega
      have hwm:IntKind.i64.wrap ((wd:Int) * 64)=((64 * wd:Nat):Int):=by rw [IntKind.wrap_i64];omega
      have hwa:IntKind.i64.wrap (64 * (wd:Int)+(t:Int))=((64 * wd+t:Nat):Int):=by rw [IntKind.wrap_i64];omega
      have hwa':IntKind.i64.wrap (((64 * wd:Nat):Int)+(t:Int))=((64 * wd+t:Nat):Int):=by rw [IntKind.wrap_i64];omega
      have HTZ:=Lib.hid (show Calls Tryz.prog 179 #[.int .u64 (bitN (clrN j l):Nat)] wr fun e w'=>e=.returned (.int .i64 (t:Int))∧wr=w' by
       have:=tz_any (clrN j l) wr (by rw [clrN_len];exact HLL.out) hcp HTB.out
       rwa [← htt] at this)
      clear hft htt hcp hjl hjk;go_wp2_with fail;refine HTZ.out.mono ?_;rintro e w5 ⟨rfl,rfl⟩;go_wp2_with fail;go_ret;exact ⟨64 * wd+t,by go_num,HSEL.out,HK3.out⟩
     ·obtain ⟨k3,hk3⟩:∃ k3,k2=k3+1:=⟨k2 - 1,by omega⟩;have hwk3:IntKind.i64.wrap ((k2:Int) - 1)=(k3:Int):=by rw [IntKind.wrap_i64];omega
      obtain ⟨X,hX⟩:∃ X,X=bitN (clrN j l):=⟨_,rfl⟩;have hXp:0 < X:=by rw [hX];exact bitN_pos hcp
      obtain ⟨X1,hX1⟩:∃ X1,X1=X - 1:=⟨_,rfl⟩;have hXb:=HXL.out;rw [← hX] at hXb
      have hw1:IntKind.u64.wrap ((X:Int) - 1)=(X1:Int):=by
       rw [show (X:Int) - 1=(X1:Int) by omega];exact u64_wrap_small (by omega)
      obtain ⟨Y,hY⟩:∃ Y,Y=bitN (clrN (j+1) l):=⟨_,rfl⟩
      have hand:bits .and .u64 (X:Int) (X1:Int)=(Y:Int):=by
       rw [u64_and_nat X X1 (by omega) (by omega),hX1,hX,bitN_clr hcp,clrN_succ,hY]
      rw [← hX];have HXX:=Lib.hid hX;have HYY:=Lib.hid hY;have HJ3:=Lib.hid (show j+1+k3=k1 by omega);have HJL:=Lib.hid hjl;have hs2:=Lib.hid (HE2.out.set_ 0 (.int .i64 (k3:Int)));have hs3:=Lib.hid (HK3.out.setCell (p:=⟨b1+1,0,none⟩) (.inr (by have:=HBW.out;show w.heap.size≤b1+1;omega)) (.int .i64 (k3:Int)));clear hX hX1 hXb hY hjk hjl hcp hk3;go_wp2_with fail
      exact ⟨⟨j+1,k3,by rw [HYY.out],HJ3.out,hs2,hs3⟩,by
       show popN 64 (Int.toNat (Y:Int)) < popN 64 (Int.toNat (X:Int))
       rw [Int.toNat_natCast,Int.toNat_natCast,HYY.out,HXX.out,HPM.out,HPM.out];have:=HJL.out
       omega⟩
def selO (bs:List Bool) (k:Int):Option Nat:=if k < 0 then none else (List.range bs.length).find? fun i=>(bs[i]? == some true) && (cntI bs i == k.toNat)
theorem selO_some {bs:List Bool} {k:Int} {i:Nat} (h0:0≤k) (h:IsSel bs k.toNat i):selO bs k=some i:=by
 unfold selO;rw [if_neg (by omega)];have hi:i < bs.length:=(List.getElem?_eq_some_iff.1 h.1).1
 cases hf:(List.range bs.length).find? (fun i=>(bs[i]? == some true) && (cntI bs i == k.toNat)) with
 | none =>
   have:=List.find?_eq_none.1 hf i (List.mem_range.2 hi)
   exfalso
   apply this
   have h2:cntI bs i=k.toNat:=h.2
   simp [h.1,h2]
 | some j =>
   have hj:=List.find?_some hf;simp only [Bool.and_eq_true,beq_iff_eq] at hj
   have:IsSel bs k.toNat j:=⟨hj.1,hj.2⟩;rw [this.unique h]
theorem selO_none {bs:List Bool} {k:Int} (h:k < 0 ∨ (bs.count true:Int)≤k):selO bs k=none:=by
 unfold selO;by_cases h0:k < 0
 ·rw [if_pos h0]
 ·rw [if_neg h0,List.find?_eq_none];intro i hi hc;simp only [Bool.and_eq_true,beq_iff_eq] at hc
  have:IsSel bs k.toNat i:=⟨hc.1,hc.2⟩;have:=this.lt;omega
def selI (bs:List Bool) (k:Int):Int:=(((selO bs k).getD 0:Nat):Int)
def selB (bs:List Bool) (k:Int):Bool:=(selO bs k).isSome
def getB (bs:List Bool) (i:Int):Bool:=if i < 0 then false else bs.getD i.toNat false
def rankI (bs:List Bool) (i:Int):Nat:=cntI bs (min (max i 0) (bs.length:Int)).toNat
def VPost (w w':World) (S:List Nat) (p:Nat) (bs:List Bool) (c:Bool):Prop:=∃ S' c',VecM w' S' p bs c'∧Kp S w w'∧Grow w S S'∧(c=true→c'=true∧S=S'∧Kp [] w w')

def VPostT (w w':World) (S:List Nat) (p:Nat) (bs:List Bool) (c:Bool):Prop:=∃ S',VecM w' S' p bs true∧Kp S w w'∧Grow w S S'∧(c=true→S=S'∧Kp [] w w')
theorem VPostT.post {w w':World} {S:List Nat} {p:Nat} {bs:List Bool} {c:Bool} (h:VPostT w w' S p bs c):VPost w w' S p bs c:=by
 obtain ⟨S',h1,h2,h3,h4⟩:=h;exact ⟨S',true,h1,h2,h3,fun h=>⟨rfl,h4 h⟩⟩

theorem vthere_any (S:List Nat) (p:Nat) (bs:List Bool) (c:Bool) (w:World) (h:VecM w S p bs c) :
  Calls Tryz.prog 126 #[.pointer (some ⟨p,0,none⟩)] w fun e w'=>e=.returned (.bool true)∧w=w':=by
 obtain ⟨_,_,c4,_⟩:=h.tail;clear h
 go_enter Tryz.func126,Tryz.ntmps126
 go_wp2_with fail;go_ret;exact ⟨rfl,rfl⟩
theorem vlen_any (S:List Nat) (p n:Nat) (bs:List Bool) (c:Bool) (w:World) (h:VecM w S p bs c) (hn:bs.length=n) :
  Calls Tryz.prog 78 #[.pointer (some ⟨p,0,none⟩)] w fun e w'=>e=.returned (.int .i64 (n:Int))∧w=w':=by
 obtain ⟨_,c3,_,_⟩:=h.tail;rw [hn] at c3;clear hn
 go_enter Tryz.func78,Tryz.ntmps78
 go_wp2_with fail;refine (vthere_any S p bs c w h).mono ?_;rintro e w1 ⟨rfl,rfl⟩;go_wp2_with fail;go_ret;exact ⟨rfl,rfl⟩
theorem vis_any (S:List Nat) (p n:Nat) (i:Int) (bs:List Bool) (c:Bool) (w:World) (h:VecM w S p bs c) (hn:bs.length=n) :
  Calls Tryz.prog 129 #[.pointer (some ⟨p,0,none⟩),.int .i64 i] w fun e w'=>e=.returned (.bool (decide (0≤i∧i < (n:Int))))∧w=w':=by
 obtain ⟨_,c3,_,_⟩:=h.tail;rw [hn] at c3;clear hn h;by_cases h0:0≤i
 ·by_cases h1:i < (n:Int)
  ·have hd:=Lib.hid (show decide (0≤i∧i < (n:Int))=true by simp;omega);obtain ⟨qv,hqv⟩:∃ qv,qv=decide (0≤i∧i < (n:Int)):=⟨_,rfl⟩;rw [← hqv];have hd:=Lib.hid (hqv.trans hd.out);clear hqv
   go_enter Tryz.func129,Tryz.ntmps129
   go_wp2_with fail;go_ret;exact ⟨by rw [hd.out];rfl,rfl⟩
  ·have hd:=Lib.hid (show decide (0≤i∧i < (n:Int))=false by simp;omega);have hd1:decide (i < (n:Int))=false:=by simp;omega
   obtain ⟨qv,hqv⟩:∃ qv,qv=decide (0≤i∧i < (n:Int)):=⟨_,rfl⟩;rw [← hqv];have hd:=Lib.hid (hqv.trans hd.out);clear hqv
   go_enter Tryz.func129,Tryz.ntmps129
   go_wp2_with fail;go_ret;exact ⟨by rw [hd.out];rfl,rfl⟩
 ·have hd:=Lib.hid (show decide (0≤i∧i < (n:Int))=false by simp;omega);have h00:i < 0:=by omega
  obtain ⟨qv,hqv⟩:∃ qv,qv=decide (0≤i∧i < (n:Int)):=⟨_,rfl⟩;rw [← hqv];have hd:=Lib.hid (hqv.trans hd.out);clear hqv
  go_enter Tryz.func129,Tryz.ntmps129
  go_wp2_with fail;go_ret;exact ⟨by rw [hd.out];rfl,rfl⟩

set_option maxHeartbeats 2000000 in
theorem vget_any (S:List Nat) (p:Nat) (i:Int) (bs:List Bool) (c:Bool) (w:World) (h:VecM w S p bs c) :
  Calls Tryz.prog 182 #[.pointer (some ⟨p,0,none⟩),.int .i64 i] w fun e w'=>e=.returned (.bool (getB bs i))∧w=w':=by
 have HV:=Lib.hid h;clear h;obtain ⟨n,hn⟩:∃ n,bs.length=n:=⟨_,rfl⟩;have HN:=Lib.hid hn;clear hn;by_cases hin:0≤i∧i < (n:Int)
 ·obtain ⟨I,rfl⟩:∃ I:Nat,i=(I:Int):=⟨i.toNat,by omega⟩;have hIn:I < n:=by omega
  obtain ⟨b,hb⟩:∃ b,bs[I]? = some b:=⟨_,List.getElem?_eq_getElem (by rw [HN.out];exact hIn)⟩
  have HG:=Lib.hid (show getB bs (I:Int)=b by
   unfold getB;rw [if_neg (by omega),Int.toNat_natCast,List.getD_eq_getElem?_getD,hb]
   rfl)
  obtain ⟨g,c0,hcw⟩:=HV.out.words;obtain ⟨_,_,_,hnb⟩:=HV.out.tail;obtain ⟨m,hm⟩:∃ m,m=wordsOf bs.length:=⟨_,rfl⟩;rw [← hm] at c0 hcw;obtain ⟨q,hq⟩:∃ q,q=I / 64:=⟨_,rfl⟩;obtain ⟨r,hr⟩:∃ r,r=I % 64:=⟨_,rfl⟩;have hqm:q < m:=by unfold wordsOf at hm;rw [HN.out] at hm;omega
  have cx:=hcw q hqm;obtain ⟨x,hx⟩:∃ x,x=bitN (wordL bs q):=⟨_,rfl⟩;have hxb:x < 2 ^ 64:=by rw [hx];exact bitN_wordL_lt _ _
  rw [← hx] at cx;have hdiv:(I:Int).tdiv 64=(q:Int):=by rw [Int.tdiv_eq_ediv_of_nonneg (by omega)];omega
  have hmod:(I:Int).tmod 64=(r:Int):=by rw [Int.tmod_eq_emod_of_nonneg (by omega)];omega
  rw [HN.out] at hnb;have hwq:IntKind.i64.wrap (q:Int)=(q:Int):=by rw [IntKind.wrap_i64];omega
  have hwr:IntKind.i64.wrap (r:Int)=(r:Int):=by rw [IntKind.wrap_i64];omega
  have hr64:r < 64:=by omega
  obtain ⟨y,hy⟩:∃ y,y=x / 2 ^ r:=⟨_,rfl⟩;have hdx:(x:Int) / 2 ^ r=(y:Int):=by rw [hy];simp
  have hdx':(x:Int) / 2 ^ min r 64=(y:Int):=by rw [show min r 64=r from by omega];exact hdx
  have hyb:y < 2 ^ 64:=by rw [hy];exact Nat.lt_of_le_of_lt (Nat.div_le_self _ _) hxb
  obtain ⟨t,ht⟩:∃ t,t=y % 2:=⟨_,rfl⟩
  have hand:bits .and .u64 (y:Int) 1=(t:Int):=by
   have:=u64_and_nat y 1 (by omega) (by omega);rw [Nat.and_one_is_mod,← ht] at this;exact this
  have htb:t=b.toNat:=by
   rw [ht,hy,hx];refine bitN_bit (l:=wordL bs q) (i:=r) ?_;unfold wordL;rw [List.getElem?_take,if_pos hr64,List.getElem?_drop,show 64 * q+r=I by omega,hb]
  have heq:((t:Int) == 1)=b:=by rw [htb];cases b <;> rfl
  have hqi:(q:Int) < (m:Int):=by omega
  have hdd:decide (0≤(I:Int)∧(I:Int) < (n:Int))=true:=by simp;omega
  clear hb hcw hnb hm hq hr hx hxb hy hyb ht htb hin
  go_enter Tryz.func182,Tryz.ntmps182
  go_wp2_with fail;refine (vthere_any S p bs c w HV.out).mono ?_;rintro e w1 ⟨rfl,rfl⟩;go_wp2_with fail;refine (vis_any S p n I bs c w HV.out HN.out).mono ?_;rintro e w1 ⟨rfl,rfl⟩;rw [hdd];go_wp2_with fail;go_ret;exact ⟨by rw [HG.out];rfl,rfl⟩
 ·have HG:=Lib.hid (show getB bs i=false by
   unfold getB;by_cases h0:i < 0
   ·rw [if_pos h0]
   ·rw [if_neg h0,List.getD_eq_getElem?_getD,List.getElem?_eq_none (by rw [HN.out];omega)]
    rfl)
  have hdd:decide (0≤i∧i < (n:Int))=false:=by simpa using hin
  clear hin
  go_enter Tryz.func182,Tryz.ntmps182
  go_wp2_with fail;refine (vthere_any S p bs c w HV.out).mono ?_;rintro e w1 ⟨rfl,rfl⟩;go_wp2_with fail;refine (vis_any S p n i bs c w HV.out HN.out).mono ?_;rintro e w1 ⟨rfl,rfl⟩;rw [hdd];go_wp2_with fail;go_ret;exact ⟨by rw [HG.out];rfl,rfl⟩

set_option maxHeartbeats 2000000 in
theorem vones_any (S:List Nat) (p:Nat) (bs:List Bool) (c:Bool) (w:World) (h:VecM w S p bs c) :
  Calls Tryz.prog 145 #[.pointer (some ⟨p,0,none⟩)] w fun e w'=>e=.returned (.int .i64 ((bs.count true:Nat):Int))∧VPostT w w' S p bs c:=by
 have HV:=Lib.hid h;clear h;obtain ⟨N,hN⟩:∃ N,N=bs.count true:=⟨_,rfl⟩;rw [← hN];have HN:=Lib.hid hN;clear hN
 go_enter Tryz.func145,Tryz.ntmps145
 go_wp2_with fail;refine (vthere_any S p bs c w HV.out).mono ?_;rintro e w1 ⟨rfl,rfl⟩;go_wp2_with fail;refine (all_any S p bs c w HV.out).mono ?_;rw [← HN.out];rintro e w2 ⟨rfl,S',hv,hk,hg,hc⟩;have HP:=Lib.hid (show VPostT w w2 S p bs c from ⟨S',hv,hk,hg,fun h=>⟨(hc h).2,(hc h).1⟩⟩);clear hv hk hg hc;go_wp2_with fail;go_ret;exact ⟨rfl,HP.out⟩

theorem below_int (S:List Nat) (p:Nat) (x:Int) (i:Nat) (bs:List Bool) (c:Bool) (w:World) (h:VecM w S p bs c) (hi:i≤bs.length) (hx:x=(i:Int)) :
  Calls Tryz.prog 181 #[.pointer (some ⟨p,0,none⟩),.int .i64 x] w fun e w'=>e=.returned (.int .i64 ((cntI bs i:Nat):Int))∧∃ S',VecM w' S' p bs true∧Kp S w w'∧Grow w S S'∧(c=true→Kp [] w w'∧S=S'):=by
 subst hx;exact below_any S p i bs c w h hi

theorem vrank_any (S:List Nat) (p:Nat) (i:Int) (bs:List Bool) (c:Bool) (w:World) (h:VecM w S p bs c) :
  Calls Tryz.prog 172 #[.pointer (some ⟨p,0,none⟩),.int .i64 i] w fun e w'=>e=.returned (.int .i64 ((rankI bs i:Nat):Int))∧VPostT w w' S p bs c:=by
 have HV:=Lib.hid h;clear h;obtain ⟨n,hn⟩:∃ n,bs.length=n:=⟨_,rfl⟩;have HN:=Lib.hid hn;obtain ⟨_,c3,_,_⟩:=HV.out.tail;rw [hn] at c3;obtain ⟨I,hI⟩:∃ I:Nat,min (max i 0) (n:Int)=(I:Int):=⟨(min (max i 0) (n:Int)).toNat,by omega⟩;have hIn:I≤n:=by omega
 obtain ⟨N,hNN⟩:∃ N,N=rankI bs i:=⟨_,rfl⟩;have HNN:=Lib.hid (show cntI bs I=N by rw [hNN];unfold rankI;rw [hn,hI,Int.toNat_natCast]);rw [← hNN];have HI:=Lib.hid hI;clear hNN hn hI
 go_enter Tryz.func172,Tryz.ntmps172
 go_wp2_with fail;refine (vthere_any S p bs c w HV.out).mono ?_;rintro e w1 ⟨rfl,rfl⟩;go_wp2_with fail;refine wp_region_still_tail 10 (by kernel_rfl) (by kernel_rfl) ?_;simp only [List.take_succ_cons,List.take_zero,List.drop_succ_cons,List.drop_zero]
 repeat still_step
 refine wpStill_nil ?_
 change wpList _ _ _ _ _ w.drew
 go_wp2_with fail
 all_goals
  refine (below_int S p _ I bs c w.drew (HV.out.kp0 (Kp.refl [] w).drew) (by rw [HN.out];exact hIn) (by have hI:=HI.out;first | omega | (split at * <;> omega))).mono ?_;rw [HNN.out];rintro e w2 ⟨rfl,S',hv,hk,hg,hc⟩;have HP:=Lib.hid (show VPostT w w2 S p bs c from ⟨S',hv,((Kp.refl S w).drew).trans hk,hg,fun h=>⟨(hc h).2,((Kp.refl [] w).drew).trans (hc h).1⟩⟩);clear hv hk hg hc;go_wp2_with fail;go_ret;exact ⟨rfl,HP.out⟩

theorem vselect_any (S:List Nat) (p:Nat) (k:Int) (bs:List Bool) (c:Bool) (w:World) (h:VecM w S p bs c) (ht:Tab64 w) (h0:0 ∉ S) :
  Calls Tryz.prog 146 #[.pointer (some ⟨p,0,none⟩),.int .i64 k] w fun e w'=>e=.returned (.tuple #[.int .i64 (selI bs k),.bool (selB bs k)])∧VPost w w' S p bs c:=by
 have HV:=Lib.hid h;clear h;have HT:=Lib.hid ht;clear ht;have H0:=Lib.hid h0;clear h0;by_cases hk0:k < 0
 ·have HS:=Lib.hid (show selI bs k=0∧selB bs k=false by
   have:=selO_none (bs:=bs) (k:=k) (.inl hk0);unfold selI selB;rw [this]
   exact ⟨rfl,rfl⟩)
  go_enter Tryz.func146,Tryz.ntmps146
  go_wp2_with fail;refine (vthere_any S p bs c w HV.out).mono ?_;rintro e w1 ⟨rfl,rfl⟩;go_wp2_with fail;go_ret2;exact ⟨by rw [HS.out.1,HS.out.2];rfl,S,c,HV.out,Kp.refl _ _,Grow.refl _ _,fun h=>⟨h,rfl,Kp.refl _ _⟩⟩
 ·obtain ⟨K,rfl⟩:∃ K:Nat,k=(K:Int):=⟨k.toNat,by omega⟩;obtain ⟨N,hN⟩:∃ N,N=bs.count true:=⟨_,rfl⟩;have HN:=Lib.hid hN;clear hN;have hK0:¬ (K:Int) < 0:=hk0;clear hk0;by_cases hKN:N≤K
  ·have HS:=Lib.hid (show selI bs (K:Int)=0∧selB bs (K:Int)=false by
    have:=selO_none (bs:=bs) (k:=(K:Int)) (.inr (by rw [← HN.out];omega));unfold selI selB;rw [this]
    exact ⟨rfl,rfl⟩)
   have hKNi:decide ((N:Int)≤(K:Int))=true:=by simp;exact hKN
   go_enter Tryz.func146,Tryz.ntmps146
   go_wp2_with fail;refine (vthere_any S p bs c w HV.out).mono ?_;rintro e w1 ⟨rfl,rfl⟩;go_wp2_with fail;refine (all_any S p bs c w HV.out).mono ?_;rw [← HN.out];rintro e w2 ⟨rfl,S',hv,hk,hg,hc⟩;have HP:=Lib.hid (show VPost w w2 S p bs c from ⟨S',true,hv,hk,hg,fun h=>⟨rfl,(hc h).2,(hc h).1⟩⟩);clear hv hk hg hc;go_wp2_with fail;go_ret2;exact ⟨by rw [HS.out.1,HS.out.2];rfl,HP.out⟩
  ·have hKNi:decide ((N:Int)≤(K:Int))=false:=by simp;omega
   have HKN:=Lib.hid (show K < bs.count true by rw [← HN.out];omega)
   go_enter Tryz.func146,Tryz.ntmps146
   go_wp2_with fail;refine (vthere_any S p bs c w HV.out).mono ?_;rintro e w1 ⟨rfl,rfl⟩;go_wp2_with fail;refine (all_any S p bs c w HV.out).mono ?_;rw [← HN.out];rintro e w2 ⟨rfl,S',hv,hk,hg,hc⟩;have HV2:=Lib.hid hv;have HK2:=Lib.hid hk;have HG2:=Lib.hid hg;have HC2:=Lib.hid hc;have HT2:=Lib.hid (HT.out.kp hk H0.out);clear hv hk hg hc;go_wp2_with fail;refine (bfind_any S' p K bs w2 HV2.out HKN.out HT2.out).mono ?_;rintro e w3 ⟨i,rfl,hsel,hk3⟩
   have HS:=Lib.hid (show selI bs (K:Int)=(i:Int)∧selB bs (K:Int)=true by
    have:=selO_some (bs:=bs) (k:=(K:Int)) (i:=i) (by omega) (by rw [Int.toNat_natCast];exact hsel);unfold selI selB;rw [this]
    exact ⟨rfl,rfl⟩)
   have HP:=Lib.hid (show VPost w w3 S p bs c from ⟨S',true,HV2.out.kp0 hk3,HK2.out.trans (hk3.mono (by simp)),HG2.out,fun h=>⟨rfl,(HC2.out h).2,(HC2.out h).1.trans hk3⟩⟩);clear hsel hk3;go_wp2_with fail;go_ret2;exact ⟨by rw [HS.out.1,HS.out.2];rfl,HP.out⟩
theorem Tryz.info_u64:(Tryz.prog.info? 149).map (fun i=>(i.zero,i.size,i.bytes))=some (some (.int .u64 0),1,8):=by kernel_rfl
theorem num_zero (m:Nat):num (List.replicate m 0)=0:=by
 induction m with
 | zero=>rfl
 | succ m ih=>rw [List.replicate_succ];show 0+2 ^ 64 * num _=0;rw [ih]
def padL (bs:List Bool) (q:Nat):List Bool:=wordL bs q ++ List.replicate (64 - (wordL bs q).length) false
theorem padL_len (bs:List Bool) (q:Nat):(padL bs q).length=64:=by
 unfold padL;rw [List.length_append,List.length_replicate];have:=wordL_len bs q;omega
theorem padL_bitN (bs:List Bool) (q:Nat):bitN (padL bs q)=bitN (wordL bs q):=by
 unfold padL;rw [bitN_app,bitN_zeros,Nat.mul_zero,Nat.add_zero]
theorem padL_get {bs:List Bool} {k:Nat} (h:k < bs.length):(padL bs (k / 64))[k % 64]? = bs[k]? := by
 have hr:k % 64 < 64:=Nat.mod_lt _ (by decide)
 have e:(wordL bs (k / 64))[k % 64]? = bs[k]? := by
  unfold wordL;rw [List.getElem?_take,if_pos hr,List.getElem?_drop,Nat.div_add_mod]
 have hl:k % 64 < (wordL bs (k / 64)).length:=by
  rw [List.getElem?_eq_getElem h] at e;exact (List.getElem?_eq_some_iff.1 e).1
 unfold padL;rw [List.getElem?_append_left hl,e]
theorem num_put {ws:List Nat} {bs:List Bool} {k x:Nat} (hw:∀ x ∈ ws,x < 2 ^ 64) (hn:num ws=bitN bs) (hk:k < bs.length) (hx:ws[k / 64]? = some x) (v:Bool) :
  num (ws.set (k / 64) (bitN ((padL bs (k / 64)).set (k % 64) v)))=bitN (bs.set k v):=by
 have e0:x=bitN (padL bs (k / 64)):=by rw [padL_bitN];exact word_bits hw hn hx
 obtain ⟨b,hb⟩:∃ b,bs[k]? = some b:=⟨_,List.getElem?_eq_getElem hk⟩;have e1:=bitN_set hb v;have e2:=bitN_set ((padL_get hk).trans hb) v;have e3:=num_set hx (bitN ((padL bs (k / 64)).set (k % 64) v));rw [← e0] at e2;obtain ⟨y,hy⟩:∃ y,y=bitN ((padL bs (k / 64)).set (k % 64) v):=⟨_,rfl⟩;rw [← hy] at e2 e3 ⊢;have e4:2 ^ (64 * (k / 64)) * (y+b.toNat * 2 ^ (k % 64))=2 ^ (64 * (k / 64)) * (x+v.toNat * 2 ^ (k % 64)):=by rw [e2]
 have e5:∀ c:Nat,2 ^ (64 * (k / 64)) * (c * 2 ^ (k % 64))=c * 2 ^ k:=fun c=>by
  rw [← Nat.mul_assoc,Nat.mul_comm _ c,Nat.mul_assoc,← Nat.pow_add,Nat.div_add_mod]
 rw [Nat.mul_add,Nat.mul_add,e5,e5] at e4;rw [hn] at e3;omega
theorem or_put {ws:List Nat} {bs:List Bool} {k x:Nat} (hw:∀ x ∈ ws,x < 2 ^ 64) (hn:num ws=bitN bs) (hx:ws[k / 64]? = some x):x ||| 2 ^ (k % 64)=bitN ((padL bs (k / 64)).set (k % 64) true):=by
 rw [← bitN_set_one (by rw [padL_len];exact Nat.mod_lt _ (by decide)),padL_bitN];rw [show bitN (wordL bs (k / 64))=x from (word_bits hw hn hx).symm]
theorem clear_put {ws:List Nat} {bs:List Bool} {k x:Nat} (hw:∀ x ∈ ws,x < 2 ^ 64) (hn:num ws=bitN bs) (hx:ws[k / 64]? = some x):x &&& (2 ^ 64 - 1 - 2 ^ (k % 64))=bitN ((padL bs (k / 64)).set (k % 64) false):=by
 have h:=bitN_clear_one (l:=padL bs (k / 64)) (r:=k % 64) (by rw [padL_len];exact Nat.mod_lt _ (by decide));rw [padL_len,padL_bitN,show bitN (wordL bs (k / 64))=x from (word_bits hw hn hx).symm] at h;exact h
theorem put_lt (bs:List Bool) (q r:Nat) (v:Bool):bitN ((padL bs q).set r v) < 2 ^ 64:=by
 have h:=bitN_lt ((padL bs q).set r v)
 rwa [List.length_set,padL_len] at h

theorem bnew_neg (n:Int) (w:World) (h:n < 0):Calls Tryz.prog 70 #[.int .i64 n] w fun e w'=>e=.returned (.tuple #[.pointer none,.int .i64 2])∧w=w':=by
 go_enter Tryz.func70,Tryz.ntmps70
 go_wp2_with fail;go_ret2;exact ⟨rfl,rfl⟩
theorem bnew_long (n:Nat) (w:World) (h:16777216 < n):Calls Tryz.prog 70 #[.int .i64 n] w fun e w'=>e=.returned (.tuple #[.pointer none,.int .i64 3])∧w=w':=by
 go_enter Tryz.func70,Tryz.ntmps70
 go_wp2_with fail;go_ret2;exact ⟨rfl,rfl⟩

set_option maxHeartbeats 2000000 in
theorem bnew_any (n:Nat) (w:World) (h:n≤16777216):Calls Tryz.prog 70 #[.int .i64 n] w fun e w' =>
  ∃ S p,e=.returned (.tuple #[.pointer (some ⟨p,0,none⟩),.int .i64 0])∧VecM w' S p (List.replicate n false) false∧(∀ x ∈ S,w.heap.size≤x)∧Kp [] w w':=by
 obtain ⟨i0,hi,hz0,hz1,hz2⟩:=info_parts Tryz.info_u64;obtain ⟨m,hm⟩:∃ m,m=(n+63) / 64:=⟨_,rfl⟩;have hw1:IntKind.i64.wrap ((n:Int)+64)=((n+64:Nat):Int):=by rw [IntKind.wrap_i64];omega
 have hw2:IntKind.i64.wrap ((n:Int)+64 - 1)=((n+63:Nat):Int):=by rw [IntKind.wrap_i64];omega
 have hw3:Int.tdiv ((n:Int)+63) 64=(m:Int):=by rw [Int.tdiv_eq_ediv_of_nonneg (by omega)];omega
 have hw4:IntKind.i64.wrap (m:Int)=(m:Int):=by rw [IntKind.wrap_i64];omega
 have hmb:m≤1000000:=by omega
 have hmk:=run_make_list (P:=Tryz.prog) 186 149 i0 (.int .u64 0) Tryz.underlying186 hi hz0 hz1 rfl .i64 .i64 m (by rw [hz2];omega) (by omega);have HM:=Lib.hid hm;clear hm hi hz0 hz1 hz2
 go_enter Tryz.func70,Tryz.ntmps70
 go_wp2_with fail;go_ret2;have b1:=Blk.new w 149 (List.replicate m (.int .u64 0));have b2:=Blk.new (w.alloc (.cells (List.replicate m (.int .u64 0)).toArray 149)) 190 [.slice (some ⟨w.heap.size,0,none⟩) m m,.slice none 0 0,.bool false,.int .i64 (n:Int),.bool true];have e:(w.alloc (.cells (List.replicate m (.int .u64 0)).toArray 149)).heap.size=w.heap.size+1:=by simp
 rw [e] at b2;refine ⟨[w.heap.size+1,w.heap.size],w.heap.size+1,rfl,⟨w.heap.size,List.replicate m 0,none,0,0,[],?_,?_,?_,?_,?_,?_,?_,?_,rfl⟩,?_,((Kp.refl [] w).alloc _).alloc _⟩
 ·rw [List.length_replicate,List.length_replicate];simpa using b2
 ·have:=b1.alloc (.cells [.slice (some ⟨w.heap.size,0,none⟩) m m,.slice none 0 0,.bool false,.int .i64 (n:Int),.bool true].toArray 190);simpa [wordsV] using this
 ·intro x hx;rw [List.eq_of_mem_replicate hx];decide
 ·rw [List.length_replicate,List.length_replicate,HM.out]
 ·rw [num_zero,bitN_zeros]
 ·rw [List.length_replicate];exact h
 ·exact ⟨rfl,.inl ⟨rfl,rfl⟩⟩
 ·intro h;cases h
 ·intro x hx;simp only [List.mem_cons,List.not_mem_nil,or_false] at hx
  omega

def ofL (bs:List Bool) (k:Nat):List Bool:=bs.take k ++ List.replicate (bs.length - k) false
theorem ofL_len {bs:List Bool} {k:Nat} (h:k≤bs.length):(ofL bs k).length=bs.length:=by
 unfold ofL;rw [List.length_append,List.length_take,List.length_replicate];omega
theorem ofL_succ {bs:List Bool} {k:Nat} {b:Bool} (h:bs[k]? = some b):ofL bs (k+1)=(ofL bs k).set k b:=by
 have hk:=(List.getElem?_eq_some_iff.1 h).1;have hl:(bs.take k).length=k:=by rw [List.length_take];omega
 unfold ofL;rw [take_succ_of h,show bs.length - k=bs.length - (k+1)+1 by omega,List.replicate_succ,List.set_append_right _ _ (by omega),hl,Nat.sub_self,List.set_cons_zero]
 simp
theorem ofL_false {bs:List Bool} {k:Nat} (h:bs[k]? = some false):ofL bs (k+1)=ofL bs k:=by
 have hk:=(List.getElem?_eq_some_iff.1 h).1;unfold ofL;rw [take_succ_of h,show bs.length - k=bs.length - (k+1)+1 by omega,List.replicate_succ]
 simp
theorem ofL_all (bs:List Bool):ofL bs bs.length=bs:=by simp [ofL]

theorem vec_put {w:World} {S:List Nat} {p g:Nat} {ws:List Nat} {A:Option Addr} {na ca:Nat} {av:List Int} {bs:List Bool} {k x Z:Nat} {v:Bool}
  (h1:Blk w p 190 [.slice (some ⟨g,0,none⟩) ws.length ws.length,.slice A na ca,.bool false,.int .i64 (bs.length:Int),.bool true])
  (h2:Blk w g 149 (wordsV ws)) (h3:∀ x ∈ ws,x < 2 ^ 64) (h4:ws.length=(bs.length+63) / 64) (h5:num ws=bitN bs) (h6:bs.length≤16777216)
  (h7:w.ownsRow 0 3 1 (.slice A na ca) na (av.map (.int .i64))) (hS:S=p :: g :: ownL (.slice A na ca))
  (hk:k < bs.length) (hx:ws[k / 64]? = some x) (hZ:Z=bitN ((padL bs (k / 64)).set (k % 64) v)) :
  VecM (w.setCell ⟨g,k / 64,none⟩ (.int .u64 (Z:Int))) S p (bs.set k v) false:=by
 have hpg:p ≠ g:=h1.ne h2 (by decide);refine ⟨g,ws.set (k / 64) Z,A,na,ca,av,?_,?_,?_,?_,?_,?_,?_,?_,hS⟩
 ·rw [List.length_set,List.length_set];exact h1.far (p:=⟨g,k / 64,none⟩) hpg _
 ·rw [← wordsV_set];exact h2.set_ _ _
 ·exact set_lt h3 (by rw [hZ];exact put_lt _ _ _ _)
 ·rw [List.length_set,List.length_set,h4]
 ·rw [hZ];exact num_put h3 h5 hk hx v
 ·rw [List.length_set];exact h6
 ·refine own_kp h7 ((Kp.refl [g] w).setCell (p:=⟨g,k / 64,none⟩) (.inl (by simp)) _) (fun b hb hm=>?_);simp only [List.mem_singleton] at hm
  subst hm;obtain ⟨l,hB⟩:=own_blk_some h7 hb;exact absurd rfl (hB.ne h2 (by decide))
 ·intro h;cases h

theorem bof_any (A:Option Addr) (n c B:Nat) (bs:List Bool) (w:World) (hx:Rd w B A (bs.map .bool)) (hn:bs.length=n) (h:n≤16777216):Calls Tryz.prog 125 #[.slice A n c] w fun e w' =>
  ∃ S p,e=.returned (.tuple #[.pointer (some ⟨p,0,none⟩),.int .i64 0])∧VecM w' S p bs false∧(∀ x ∈ S,w.heap.size≤x)∧Kp [] w w':=by
 have HX:=Lib.hid hx;clear hx;have HN:=Lib.hid hn;clear hn
 go_enter Tryz.func125,Tryz.ntmps125
 go_wp2_with fail;refine (bnew_any n w h).mono ?_;rintro e w1 ⟨S,p,rfl,hv,hS,hk⟩
 have HV0:=Lib.hid (show VecM w1 S p (ofL bs 0) false by
  have e:ofL bs 0=List.replicate n false:=by unfold ofL;rw [HN.out];rfl
  rw [e];exact hv)
 have HS:=Lib.hid hS;have HK0:=Lib.hid hk;clear hv hS hk;go_wp2_with fail
 go_loopw [19] (fun x wr=>∃ (k:Nat),x=.int .i64 (k:Int)∧k≤n∧Hid (VecM wr S p (ofL bs k) false)∧Hid (Kp [] w wr)) (fun x _=>n - (intOf x).toNat)
 case atStart=>exact ⟨0,rfl,by omega,HV0,HK0⟩
 case round =>
  clear HV0 HK0;obtain ⟨k,rfl,hk,HV,HK⟩:=hrel;by_cases hlt:k < n
  ·obtain ⟨b,hb⟩:∃ b,bs[k]? = some b:=⟨_,List.getElem?_eq_getElem (by rw [HN.out];exact hlt)⟩;obtain ⟨ad,rfl,_,hcx⟩:=(HX.out.kp0 HK.out).at_ (i:=k) (u:=.bool b) (by simp [hb])
   cases b with
   | false =>
     have HV2:=Lib.hid (show VecM wr S p (ofL bs (k+1)) false by rw [ofL_false hb];exact HV.out);clear hb HV;go_wp2_with fail;exact ⟨⟨k+1,by go_num,by omega,HV2,HK⟩,by simp [intOf];omega⟩
   | true =>
     have HSUB:=HV.out.lt;obtain ⟨g,ws,A',na,ca,av,h1,h2,h3,h4,h5,h6,h7,_,hSS⟩:=HV.out;have hL:(ofL bs k).length=n:=by rw [ofL_len (by rw [HN.out];exact hk),HN.out]
     obtain ⟨q,hq⟩:∃ q,q=k / 64:=⟨_,rfl⟩;obtain ⟨r,hr⟩:∃ r,r=k % 64:=⟨_,rfl⟩;have hqm:q < ws.length:=by rw [h4,hL];omega
     obtain ⟨x,hxq⟩:∃ x,ws[q]? = some x:=⟨_,List.getElem?_eq_getElem hqm⟩;have cx:wr.cell? ⟨g,q,none⟩=some (.int .u64 (x:Int)):=by rw [h2.cell];exact wordsV_get hxq
     have cf:=h2.free q;have c0:=h1.cell 0;simp only [List.getElem?_cons_zero] at c0
     have hxb:=h3 x (List.mem_of_getElem? hxq);obtain ⟨Z,hZ⟩:∃ Z,Z=x ||| 2 ^ r:=⟨_,rfl⟩;have hr64:r < 64:=by omega
     obtain ⟨T,hT⟩:∃ T,T=2 ^ r:=⟨_,rfl⟩;have hTb:T < 2 ^ 64:=by rw [hT];exact Nat.pow_lt_pow_right (by decide) hr64
     have hor:bits .or .u64 (x:Int) (T:Int)=(Z:Int):=by rw [hZ,← hT];exact u64_or_nat x T (by omega) (by omega)
     have hZb:Z < 2 ^ 64:=by rw [hZ,← hT];exact Nat.or_lt_two_pow hxb hTb
     have hdiv:(k:Int).tdiv 64=(q:Int):=by rw [Int.tdiv_eq_ediv_of_nonneg (by omega)];omega
     have hmod:(k:Int).tmod 64=(r:Int):=by rw [Int.tmod_eq_emod_of_nonneg (by omega)];omega
     have hwq:IntKind.i64.wrap (q:Int)=(q:Int):=by rw [IntKind.wrap_i64];omega
     have hwr:IntKind.i64.wrap (r:Int)=(r:Int):=by rw [IntKind.wrap_i64];omega
     have hsh:IntKind.u64.wrap (1 * 2 ^ min r 64)=(T:Int):=by
      have e:(1:Int) * 2 ^ min r 64=((2 ^ r:Nat):Int):=by rw [show min r 64=r from by omega];simp
      rw [e,← hT,u64_wrap_nat,Nat.mod_eq_of_lt hTb]
     have hsh':IntKind.u64.wrap (2 ^ min r 64)=(T:Int):=by rw [Int.one_mul] at hsh;exact hsh
     have hsh2:IntKind.u64.wrap (2 ^ r)=(T:Int):=by rw [show min r 64=r from by omega] at hsh';exact hsh'
     have HV2:=Lib.hid (show VecM (wr.setCell ⟨g,q,none⟩ (.int .u64 (Z:Int))) S p (ofL bs (k+1)) false by
      rw [ofL_succ hb,hq]
      exact vec_put h1 h2 h3 h4 h5 h6 h7 hSS (by rw [hL];exact hlt) (by rw [← hq];exact hxq) (by rw [hZ,hr];exact or_put h3 h5 (by rw [← hq];exact hxq)))
     have HK2:=Lib.hid (show Kp [] w (wr.setCell ⟨g,q,none⟩ (.int .u64 (Z:Int))) from HK.out.trans' ((Kp.refl [g] wr).setCell (p:=⟨g,q,none⟩) (.inl (by simp)) _) (by
      intro z hz;simp only [List.mem_singleton] at hz
      subst hz
      exact .inr (HS.out z (by rw [hSS];simp))))
     obtain ⟨m,hm⟩:∃ m,m=ws.length:=⟨_,rfl⟩;rw [← hm] at c0 hqm;have hqi:(q:Int) < (m:Int):=by omega
     clear hb HV HK HSUB h1 h2 h3 h4 h5 h6 h7 hSS hL hq hr hxq hxb hZ hT hTb hm;go_wp2_with fail
     go_region
     go_wp2_with fail;exact ⟨⟨k+1,by go_num,by omega,Lib.hid (HV2.out.kp0 ((Kp.refl [] _).drew)),Lib.hid (HK2.out.drew)⟩,by simp [intOf];omega⟩
  ·obtain rfl:n=k:=by omega
   have HV2:=Lib.hid (show VecM wr S p bs false by
    have e:=ofL_all bs;rw [HN.out] at e
    rw [← e];exact HV.out)
   go_wp2_with fail;go_ret2;exact ⟨S,p,rfl,HV2.out,HS.out,HK.out⟩
def bytesN (N:Nat) (k:Nat):List Int:=(List.range k).map fun i=>((N / 2 ^ (8 * i) % 256:Nat):Int)
theorem bytesN_succ (N k:Nat):bytesN N (k+1)=bytesN N k ++ [((N / 2 ^ (8 * k) % 256:Nat):Int)]:=by simp [bytesN,List.range_succ]

set_option maxHeartbeats 1000000 in
theorem vbytes_any (S:List Nat) (p:Nat) (bs:List Bool) (c0:Bool) (w:World) (h:VecM w S p bs c0) :
  Calls Tryz.prog 77 #[.pointer (some ⟨p,0,none⟩)] w fun e w'=>∃ A m c,m=(bs.length+7) / 8∧e=.returned (.slice A m c)∧w'.ownsRow w.heap.size 5 1 (.slice A m c) m ((bytesN (bitN bs) m).map (.int .u8))∧Kp [] w w':=by
 obtain ⟨i0,hi,hz0,hz1,hz2⟩:=info_parts Tryz.info_u8;obtain ⟨n,hn⟩:∃ n,n=bs.length:=⟨_,rfl⟩;have HH:=Lib.hid h;obtain ⟨g,ws,A0,na,ca,av,h1,h2,h3,h4,h5,h6,_,_,_⟩:=h;rw [← hn] at h4 h6;have hw2:IntKind.i64.wrap ((n:Int)+7)=((n+7:Nat):Int):=by rw [IntKind.wrap_i64];omega
 obtain ⟨m,hm⟩:∃ m,m=(n+7) / 8:=⟨_,rfl⟩;have hw3:Int.tdiv ((n:Int)+7) 8=(m:Int):=by rw [Int.tdiv_eq_ediv_of_nonneg (by omega)];omega
 have hwm:IntKind.i64.wrap (m:Int)=(m:Int):=by rw [IntKind.wrap_i64];omega
 have hmb:m≤3000000:=by omega
 have HM:=Lib.hid (show m=(bs.length+7) / 8 by rw [hm,hn]);have HW:=Lib.hid (show Blk w g 149 (wordsV ws) from h2);have HR:=Lib.hid h1;have HLT:=Lib.hid h3;have HNM:=Lib.hid h5;obtain ⟨u,hu⟩:∃ u,u=ws.length:=⟨_,rfl⟩;have HU:=Lib.hid hu;have hmu:m≤8 * u:=by rw [hu,h4,hm];omega
 have HN:=Lib.hid hn.symm;clear h1 h2 h3 h4 h5 h6 hm hn hu
 go_enter Tryz.func77,Tryz.ntmps77
 go_wp2_with fail;refine (vlen_any S p n bs c0 w HH.out HN.out).mono ?_;rintro e w1 ⟨rfl,rfl⟩;go_wp2_with fail
 go_loopw [2,8] (fun y x wr=>∃ (k c1:Nat) (A1:Option Addr),x=.int .i64 (k:Int)∧y=.slice A1 k c1∧k≤m∧Hid (wr.ownsRow w.heap.size 5 1 (.slice A1 k c1) k ((bytesN (bitN bs) k).map (.int .u8)))∧Hid (Kp [] w wr)) (fun _ x _=>m - (intOf x).toNat)
 case atStart=>exact ⟨0,0,none,rfl,rfl,by omega,Lib.hid ⟨rfl,.inl ⟨rfl,rfl⟩⟩,Lib.hid (Kp.refl [] w)⟩
 case round =>
  obtain ⟨k,c1,A1,rfl,rfl,hk,HO,HK⟩:=hrel;by_cases hlt:k < m
  ·have c0:wr.cell? ⟨p,0,none⟩=some (.slice (some ⟨g,0,none⟩) u u):=by rw [(HR.out.kp0 HK.out).cell,HU.out];rfl
   obtain ⟨q,hq⟩:∃ q,q=k / 8:=⟨_,rfl⟩;obtain ⟨r,hr⟩:∃ r,r=k % 8:=⟨_,rfl⟩;have hdiv:(k:Int).tdiv 8=(q:Int):=by rw [Int.tdiv_eq_ediv_of_nonneg (by omega)];omega
   have hmod:(k:Int).tmod 8=(r:Int):=by rw [Int.tmod_eq_emod_of_nonneg (by omega)];omega
   have hwq:IntKind.i64.wrap (q:Int)=(q:Int):=by rw [IntKind.wrap_i64];omega
   have hwr:IntKind.i64.wrap (r:Int)=(r:Int):=by rw [IntKind.wrap_i64];omega
   have hqu:q < u:=by omega
   obtain ⟨r8,hr8⟩:∃ r8,r8=r * 8:=⟨_,rfl⟩;have hw8:IntKind.i64.wrap ((r:Int) * 8)=(r8:Int):=by rw [IntKind.wrap_i64];omega
   have hr864:r8 < 64:=by omega
   obtain ⟨x,hx⟩:∃ x,ws[q]? = some x:=⟨_,List.getElem?_eq_getElem (by rw [← HU.out];exact hqu)⟩;have cx:wr.cell? ⟨g,q,none⟩=some (.int .u64 (x:Int)):=by rw [(HW.out.kp0 HK.out).cell];exact wordsV_get hx
   obtain ⟨X,hX⟩:∃ X,X=x / 2 ^ r8:=⟨_,rfl⟩;have hdx:(x:Int) / 2 ^ r8=(X:Int):=by rw [hX];simp
   have hdx':(x:Int) / 2 ^ min r8 64=(X:Int):=by rw [show min r8 64=r8 from by omega];exact hdx
   obtain ⟨V,hV⟩:∃ V,V=X % 256:=⟨_,rfl⟩
   have hwV:IntKind.u8.wrap (X:Int)=(V:Int):=by
    have:IntKind.u8.wrap (X:Int)=(X:Int) % 256:=by simp [IntKind.wrap,IntKind.signed,IntKind.bits]
    rw [this,hV];omega
   have HVAL:=Lib.hid (show bitN bs / 2 ^ (8 * k) % 256=V by
    have:=num_get (wd:=8) (r:=r8) HLT.out hx (by omega);rw [← HNM.out,show 8 * k=64 * q+r8 from by omega];rw [hV,hX]
    exact this)
   have HRX:=Lib.hid (show Rd (wr.alloc (.cells #[.int .u8 (V:Int)] 5)) (wr.heap.size+1) (some ⟨wr.heap.size,0,none⟩) [.int .u8 (V:Int)] from Rd.new wr #[.int .u8 (V:Int)] 5 (0,0));clear hq hr hr8 hx hX hV
   go_wp2_with (at_builtin;go_loud (refine wpList_append_rd rfl (.tmp 11) (.tmp 26) 41 rfl w.heap.size 5 i0 (.int .u8 0) 1 1 Tryz.underlying41 hi hz0 hz1 hz2 rfl (by decide) _ k _ rfl (own_kp0 HO.out ((Kp.refl [] _).alloc _)) _ _ 1 1 [.int .u8 (V:Int)] rfl rfl HRX.out (by simp [Value.oneCell']) (by unfold maxLen;omega) (by omega) (Nat.le_trans HK.out.size (by simp)) ?_);intro v2 w2 hown2 hgrow2 hat2
                obtain ⟨A3,c3,rfl,_⟩:=own_form hown2;have HK2:=Lib.hid ((HK.out.alloc (.cells #[.int .u8 (V:Int)] 5)).grown hgrow2 (fun g hg=>.inr (own_ge HO.out hg).1));have HO2:=Lib.hid hown2
                clear hown2 hgrow2 hat2)
   exact ⟨⟨k+1,c3,A3,by go_num,rfl,by omega,Lib.hid (by rw [bytesN_succ,List.map_append,HVAL.out];exact HO2.out),HK2⟩,by simp [intOf];omega⟩
  ·obtain rfl:m=k:=by omega
   go_wp2_with fail;go_ret;exact ⟨A1,m,c1,HM.out,rfl,HO.out,HK.out⟩
def packN (wd:Nat):List Nat→Nat
 | []=>0
 | x :: l=>x+2 ^ wd * packN wd l
theorem packN_snoc (wd:Nat):∀ (l:List Nat) (x:Nat),packN wd (l ++ [x])=packN wd l+x * 2 ^ (wd * l.length)
 | [],x=>by show x+2 ^ wd * 0=0+x * 2 ^ (wd * 0);simp
 | y :: l,x=>by
   show y+2 ^ wd * packN wd (l ++ [x])=y+2 ^ wd * packN wd l+x * 2 ^ (wd * (l.length+1))
   rw [packN_snoc,Nat.mul_add,Nat.mul_add wd,Nat.mul_one,Nat.pow_add];have:2 ^ wd * (x * 2 ^ (wd * l.length))=x * (2 ^ (wd * l.length) * 2 ^ wd):=by rw [Nat.mul_comm,Nat.mul_assoc]
   omega
theorem packN_lt {wd:Nat}:∀ {l:List Nat},(∀ x ∈ l,x < 2 ^ wd)→packN wd l < 2 ^ (wd * l.length)
 | [],_=>by show 0 < 2 ^ (wd * 0);exact Nat.two_pow_pos _
 | x :: l,h=>by
   have h1:=packN_lt (l:=l) (fun y hy=>h y (by simp [hy]));have h2:=h x (by simp)
   show x+2 ^ wd * packN wd l < 2 ^ (wd * (l.length+1))
   rw [Nat.mul_add,Nat.mul_one,Nat.add_comm (wd * l.length),Nat.pow_add];have h3:2 ^ wd * (packN wd l+1)≤2 ^ wd * 2 ^ (wd * l.length):=Nat.mul_le_mul_left _ h1;rw [Nat.mul_add,Nat.mul_one] at h3;omega
theorem packN_get {wd:Nat}:∀ {l:List Nat} {i x:Nat},(∀ x ∈ l,x < 2 ^ wd)→l[i]? = some x→packN wd l / 2 ^ (wd * i) % 2 ^ wd=x
 | [],i,x,_,hx=>by simp at hx
 | y :: l,0,x,h,hx=>by
   simp at hx
   subst hx
   show (y+2 ^ wd * packN wd l) / 2 ^ (wd * 0) % 2 ^ wd=y
   rw [Nat.mul_zero,Nat.pow_zero,Nat.div_one,Nat.add_mul_mod_self_left];exact Nat.mod_eq_of_lt (h y (by simp))
 | y :: l,i+1,x,h,hx=>by
   show (y+2 ^ wd * packN wd l) / 2 ^ (wd * (i+1)) % 2 ^ wd=x
   rw [Nat.mul_add,Nat.mul_one,Nat.add_comm (wd * i),Nat.pow_add,← Nat.div_div_eq_div_mul,Nat.add_mul_div_left _ _ (Nat.two_pow_pos _),Nat.div_eq_of_lt (h y (by simp)),Nat.zero_add];exact packN_get (fun z hz=>h z (by simp [hz])) (by simpa using hx)
theorem last_bits {bs:List Nat} {a x:Nat} (hb:∀ y ∈ bs,y < 2 ^ 8) (hl:bs.length=(a+7) / 8) (hr:0 < a % 8) (hx:bs[bs.length - 1]? = some x):packN 8 bs < 2 ^ a ↔ x / 2 ^ (a % 8)=0:=by
 have hlen:bs.length=a / 8+1:=by omega
 have e:bs=bs.take (a / 8) ++ [x]:=by
  rw [← take_succ_of (by rw [← hx,hlen];rfl),← hlen,List.take_length]
 have hl2:(bs.take (a / 8)).length=a / 8:=by rw [List.length_take];omega
 have h1:=packN_lt (wd:=8) (l:=bs.take (a / 8)) (fun y hy=>hb y (List.mem_of_mem_take hy));rw [hl2] at h1
 have e2:packN 8 bs=packN 8 (bs.take (a / 8))+x * 2 ^ (8 * (a / 8)):=by
  have:=packN_snoc 8 (bs.take (a / 8)) x;rw [← e,hl2] at this;exact this
 have e3:packN 8 bs / 2 ^ (8 * (a / 8))=x:=by
  rw [e2,Nat.add_mul_div_right _ _ (Nat.two_pow_pos _),Nat.div_eq_of_lt h1,Nat.zero_add]
 have e4:2 ^ a=2 ^ (a % 8) * 2 ^ (8 * (a / 8)):=by rw [← Nat.pow_add,Nat.add_comm,Nat.div_add_mod]
 rw [e4,← Nat.div_lt_iff_lt_mul (Nat.two_pow_pos _),e3,Nat.div_eq_zero_iff];have:=Nat.two_pow_pos (a % 8);omega
theorem whole_bits {bs:List Nat} {a:Nat} (hb:∀ y ∈ bs,y < 2 ^ 8) (hl:bs.length=(a+7) / 8) (hr:a % 8=0):packN 8 bs < 2 ^ a:=by
 have h:=packN_lt hb
 rwa [show 8 * bs.length=a from by omega] at h
def intsN (ls:List Nat):List Int:=ls.map fun x=>((x:Nat):Int)
theorem intsN_bytes {b:List Int} (h:∀ x ∈ b,0≤x∧x≤255):intsN (b.map Int.toNat)=b:=by
 induction b with
 | nil=>rfl
 | cons x l ih =>
   have h1:=h x (by simp);have h2:=ih (fun y hy=>h y (by simp [hy]));simp only [intsN,List.map_cons,List.map_map] at h2 ⊢
   rw [h2,show ((x.toNat:Nat):Int)=x from by omega]
def bitsOf (n N:Nat):List Bool:=(List.range n).map fun i=>N / 2 ^ i % 2 == 1
theorem bitsOf_len (n N:Nat):(bitsOf n N).length=n:=by simp [bitsOf]
theorem bitsOf_get {n N i:Nat} (h:i < n):(bitsOf n N)[i]? = some (N / 2 ^ i % 2 == 1):=by simp [bitsOf,h]
theorem bitsOf_succ (n N:Nat):bitsOf (n+1) N=bitsOf n N ++ [N / 2 ^ n % 2 == 1]:=by simp [bitsOf,List.range_succ]
theorem bitN_bitsOf (N:Nat):∀ n,bitN (bitsOf n N)=N % 2 ^ n
 | 0=>by rw [Nat.pow_zero,Nat.mod_one];rfl
 | n+1=>by
   rw [bitsOf_succ,bitN_app,bitN_bitsOf N n,bitsOf_len,Nat.pow_succ,Nat.mod_mul]
   have e:bitN [N / 2 ^ n % 2 == 1]=N / 2 ^ n % 2:=by
    rcases Nat.mod_two_eq_zero_or_one (N / 2 ^ n) with h | h <;> rw [h] <;> rfl
   rw [e]
theorem bitsOf_eq {n N:Nat} (h:N < 2 ^ n):bitN (bitsOf n N)=N:=by rw [bitN_bitsOf,Nat.mod_eq_of_lt h]
theorem bitsOf_bitN (bs:List Bool):bitsOf bs.length (bitN bs)=bs:=by
 apply List.ext_getElem?
 intro i;by_cases hi:i < bs.length
 ·rw [bitsOf_get hi,bitN_bit (List.getElem?_eq_getElem hi),List.getElem?_eq_getElem hi]
  cases bs[i] <;> rfl
 ·rw [List.getElem?_eq_none (by rw [bitsOf_len];omega),List.getElem?_eq_none (by omega)]
theorem bytesN_len (N m:Nat):(bytesN N m).length=m:=by simp [bytesN]
theorem bytesN_get (N:Nat) {m j:Nat} (h:j < m):(bytesN N m)[j]? = some ((N / 2 ^ (8 * j) % 256:Nat):Int):=by simp [bytesN,h]
theorem bytesN_val (N m:Nat):∀ x ∈ bytesN N m,0≤x∧x≤255:=by
 intro x hx;obtain ⟨i,_,rfl⟩:=List.mem_map.1 hx;omega
theorem packN_bytesN (N:Nat):∀ m,packN 8 ((bytesN N m).map Int.toNat)=N % 2 ^ (8 * m)
 | 0=>by rw [Nat.mul_zero,Nat.pow_zero,Nat.mod_one];rfl
 | m+1=>by
   rw [bytesN_succ,List.map_append,List.map_cons,List.map_nil,packN_snoc,packN_bytesN N m,List.length_map,bytesN_len,Int.toNat_natCast,Nat.mul_add,Nat.mul_one,Nat.pow_add,Nat.mod_mul,Nat.mul_comm (2 ^ (8 * m))]
theorem bytesN_zero (m:Nat):bytesN 0 m=List.replicate m 0:=by
 refine List.eq_replicate_iff.2 ⟨bytesN_len _ _,fun v hv=>?_⟩;obtain ⟨k,_,rfl⟩:=List.mem_map.1 hv
 simp
theorem bytesN_step {N a m:Nat} (h:a / 8 < m):(bytesN (N % 2 ^ a) m).set (a / 8) (((N % 2 ^ a / 2 ^ (8 * (a / 8)) % 256+(N / 2 ^ a % 2) * 2 ^ (a % 8):Nat)):Int)=bytesN (N % 2 ^ (a+1)) m:=by
 apply List.ext_getElem?
 intro j;rw [List.getElem?_set,bytesN_len];have hM:N % 2 ^ a < 2 ^ a:=Nat.mod_lt _ (Nat.two_pow_pos _);have hb:N / 2 ^ a % 2≤1:=by omega
 by_cases hj:a / 8=j
 ·rw [if_pos hj,if_pos h,← hj,bytesN_get _ h,mod_step,byte_step hM hb,if_pos rfl]
 ·rw [if_neg hj];by_cases hjm:j < m
  ·rw [bytesN_get _ hjm,bytesN_get _ hjm,mod_step,byte_step hM hb,if_neg (fun e=>hj e.symm),Nat.add_zero]
  ·rw [List.getElem?_eq_none (by rw [bytesN_len];omega),List.getElem?_eq_none (by rw [bytesN_len];omega)]
theorem bit_at {wd i k x:Nat} {ls:List Nat} (hl:∀ x ∈ ls,x < 2 ^ wd) (hx:ls[i]? = some x) (hk:k < wd):packN wd ls / 2 ^ (wd * i+k) % 2=x / 2 ^ k % 2:=by
 have h:=packN_get hl hx;have e:=Nat.div_add_mod (packN wd ls / 2 ^ (wd * i)) (2 ^ wd);rw [h] at e;rw [Nat.pow_add,← Nat.div_div_eq_div_mul,← e]
 generalize packN wd ls / 2 ^ (wd * i) / 2 ^ wd=q
 have e2:2 ^ wd * q=2 ^ k * (2 * (2 ^ (wd - k - 1) * q)):=by
  rw [← Nat.mul_assoc 2,← Nat.mul_assoc]
  congr 1
  rw [show (2:Nat) * 2 ^ (wd - k - 1)=2 ^ (wd - k - 1+1) from by rw [Nat.pow_succ,Nat.mul_comm],← Nat.pow_add];exact congrArg (2 ^ ·) (by omega)
 rw [e2,Nat.add_comm,Nat.add_mul_div_left _ _ (Nat.two_pow_pos _),Nat.add_mul_mod_self_left]
theorem qselect {S:List Nat} {p:Nat} {bs:List Bool} {w:World} (k:Int) (h:VecM w S p bs true) (ht:Tab64 w) (h0:0 ∉ S) {x:Int} {b:Bool} (hx:selI bs k=x) (hb:selB bs k=b) :
  Calls Tryz.prog 146 #[.pointer (some ⟨p,0,none⟩),.int .i64 k] w fun e w'=>e=.returned (.tuple #[.int .i64 x,.bool b])∧Kp [] w w':=by
 refine (vselect_any S p k bs true w h ht h0).mono fun e w' hh=>?_
 rw [hx,hb] at hh;obtain ⟨he,S',c',_,_,_,hc⟩:=hh;exact ⟨he,(hc rfl).2.2⟩
theorem first_count {w0 w w':World} {S:List Nat} {p:Nat} {bs:List Bool} {c:Bool} (hk:Kp [] w0 w) (hS:∀ x ∈ S,w0.heap.size≤x) (h:VPostT w w' S p bs c):∃ S',VecM w' S' p bs true∧Kp [] w0 w'∧∀ x ∈ S',w0.heap.size≤x:=by
 obtain ⟨S',h1,h2,h3,_⟩:=h;refine ⟨S',h1,hk.trans' h2 (fun g hg=>.inr (hS g hg)),fun x hx=>?_⟩;rcases h3 x hx with h | h
 ·exact hS x h
 ·exact Nat.le_trans hk.size h
theorem Tab64.lt {w:World} (h:Tab64 w):0 < w.heap.size:=by
 obtain ⟨v,hv⟩:∃ v,dbTab[0]? = some v:=⟨_,rfl⟩;exact World.block_lt_of_cell? w ⟨0,0,none⟩ (h 0 v hv)
def lenE (n:Int):Int:=if n < 0 then 2 else if 16777216 < n then 3 else 0
def readE (n:Int) (bs:List Nat):Int:=if lenE n=0 then (if bs.length=(n.toNat+7) / 8∧packN 8 bs < 2 ^ n.toNat then 0 else 4) else lenE n
theorem readE_err {n:Int} {bs:List Nat} (h:lenE n ≠ 0):readE n bs=lenE n:=by unfold readE;rw [if_neg h]
theorem readE_ok {n:Nat} {bs:List Nat} (h:lenE n=0) (h1:bs.length=(n+7) / 8) (h2:packN 8 bs < 2 ^ n):readE n bs=0:=by
 unfold readE;rw [if_pos h,Int.toNat_natCast,if_pos ⟨h1,h2⟩]
theorem readE_no {n:Nat} {bs:List Nat} (h:lenE n=0) (h1:¬ (bs.length=(n+7) / 8∧packN 8 bs < 2 ^ n)):readE n bs=4:=by
 unfold readE;rw [if_pos h,Int.toNat_natCast,if_neg h1]
theorem lenE_ok {n:Int} (h:lenE n=0):0≤n∧n≤16777216:=by
 unfold lenE at h;by_cases h1:n < 0
 ·rw [if_pos h1] at h;cases h
 ·rw [if_neg h1] at h;by_cases h2:16777216 < n
  ·rw [if_pos h2] at h;cases h
  ·omega
theorem lenE_nat {n:Nat} (h:n≤16777216):lenE (n:Int)=0:=by unfold lenE;rw [if_neg (by omega),if_neg (by omega)]

theorem bnew_no (n:Int) (w:World) (h:lenE n ≠ 0):Calls Tryz.prog 70 #[.int .i64 n] w fun e w'=>e=.returned (.tuple #[.pointer none,.int .i64 (lenE n)])∧w=w':=by
 by_cases h0:n < 0
 ·refine (bnew_neg n w h0).mono fun e w' hh=>?_
  unfold lenE;rw [if_pos h0];exact hh
 ·by_cases h1:16777216 < n
  ·obtain ⟨m,rfl⟩:∃ m:Nat,n=(m:Int):=⟨n.toNat,by omega⟩;refine (bnew_long m w (by omega)).mono fun e w' hh=>?_
   unfold lenE;rw [if_neg h0,if_pos h1];exact hh
  ·exact absurd (show lenE n=0 by unfold lenE;rw [if_neg h0,if_neg h1]) h

set_option maxHeartbeats 2000000 in
theorem bnew_raw (n:Nat) (w:World) (h:n≤16777216):Calls Tryz.prog 70 #[.int .i64 n] w fun e w' =>
  ∃ g p m,e=.returned (.tuple #[.pointer (some ⟨p,0,none⟩),.int .i64 0])∧m=(n+63) / 64∧w.heap.size≤g∧w.heap.size≤p∧Blk w' g 149 (wordsV (List.replicate m 0)) ∧
   Blk w' p 190 [.slice (some ⟨g,0,none⟩) m m,.slice none 0 0,.bool false,.int .i64 (n:Int),.bool true]∧Kp [] w w':=by
 obtain ⟨i0,hi,hz0,hz1,hz2⟩:=info_parts Tryz.info_u64;obtain ⟨m,hm⟩:∃ m,m=(n+63) / 64:=⟨_,rfl⟩;have hw1:IntKind.i64.wrap ((n:Int)+64)=((n+64:Nat):Int):=by rw [IntKind.wrap_i64];omega
 have hw2:IntKind.i64.wrap ((n:Int)+64 - 1)=((n+63:Nat):Int):=by rw [IntKind.wrap_i64];omega
 have hw3:Int.tdiv ((n:Int)+63) 64=(m:Int):=by rw [Int.tdiv_eq_ediv_of_nonneg (by omega)];omega
 have hw4:IntKind.i64.wrap (m:Int)=(m:Int):=by rw [IntKind.wrap_i64];omega
 have hmb:m≤1000000:=by omega
 have hmk:=run_make_list (P:=Tryz.prog) 186 149 i0 (.int .u64 0) Tryz.underlying186 hi hz0 hz1 rfl .i64 .i64 m (by rw [hz2];omega) (by omega);have HM:=Lib.hid hm;clear hm hi hz0 hz1 hz2
 go_enter Tryz.func70,Tryz.ntmps70
 go_wp2_with fail;go_ret2;have b1:=Blk.new w 149 (List.replicate m (.int .u64 0));have b2:=Blk.new (w.alloc (.cells (List.replicate m (.int .u64 0)).toArray 149)) 190 [.slice (some ⟨w.heap.size,0,none⟩) m m,.slice none 0 0,.bool false,.int .i64 (n:Int),.bool true];have e:(w.alloc (.cells (List.replicate m (.int .u64 0)).toArray 149)).heap.size=w.heap.size+1:=by simp
 rw [e] at b2;refine ⟨w.heap.size,w.heap.size+1,m,rfl,HM.out,Nat.le_refl _,Nat.le_succ _,?_,?_,((Kp.refl [] w).alloc _).alloc _⟩
 ·have:=b1.alloc (.cells [.slice (some ⟨w.heap.size,0,none⟩) m m,.slice none 0 0,.bool false,.int .i64 (n:Int),.bool true].toArray 190);simpa [wordsV] using this
 ·simpa using b2

set_option maxHeartbeats 2000000 in
theorem vread_any (n:Int) (A:Option Addr) (L c B:Nat) (bs:List Nat) (w:World) (hx:Rd w B A ((intsN bs).map (.int .u8))) (hn:bs.length=L) (hb:L≤1000000000) (hs:∀ y ∈ bs,y < 2 ^ 8) :
  Calls Tryz.prog 100 #[.int .i64 n,.slice A L c] w fun e w'=>Kp [] w w'∧((readE n bs ≠ 0∧e=.returned (.tuple #[.pointer none,.int .i64 (readE n bs)])) ∨
   (readE n bs=0∧lenE n=0∧bs.length=(n.toNat+7) / 8∧packN 8 bs < 2 ^ n.toNat∧∃ S p,e=.returned (.tuple #[.pointer (some ⟨p,0,none⟩),.int .i64 0])∧VecM w' S p (bitsOf n.toNat (packN 8 bs)) false∧(∀ x ∈ S,w.heap.size≤x))):=by
 have HX:=Lib.hid hx;clear hx;have HN:=Lib.hid hn;clear hn;have HS:=Lib.hid hs;clear hs;by_cases he:lenE n ≠ 0
 ·have HE:=Lib.hid he;have HR:=Lib.hid (readE_err (bs:=bs) he);have hE1:(lenE n != 0)=true:=by simpa using he
  obtain ⟨E,hE⟩:∃ E,E=lenE n:=⟨_,rfl⟩;rw [← hE] at hE1;have HEE:=Lib.hid hE;clear hE he
  go_enter Tryz.func100,Tryz.ntmps100
  go_wp2_with fail;refine (bnew_no n w HE.out).mono ?_;rintro e w2 ⟨rfl,rfl⟩;rw [← HEE.out];go_wp2_with fail;go_ret2;exact ⟨Kp.refl [] w,.inl ⟨by rw [HR.out];exact HE.out,by rw [HR.out,HEE.out];rfl⟩⟩
 have he0:lenE n=0:=by omega
 have hwn:=lenE_ok he0;obtain ⟨T,rfl⟩:∃ T:Nat,n=(T:Int):=⟨n.toNat,by omega⟩;have hDK:T≤16777216:=by omega
 have HE:=Lib.hid he0;clear he he0;rw [Int.toNat_natCast];have hw2:IntKind.i64.wrap ((T:Int)+7)=((T+7:Nat):Int):=by rw [IntKind.wrap_i64];omega
 obtain ⟨s,hs⟩:∃ s,s=(T+7) / 8:=⟨_,rfl⟩;have hw3:Int.tdiv ((T:Int)+7) 8=(s:Int):=by rw [Int.tdiv_eq_ediv_of_nonneg (by omega)];omega
 have hws:IntKind.i64.wrap (s:Int)=(s:Int):=by rw [IntKind.wrap_i64];omega
 obtain ⟨r,hr⟩:∃ r,r=T % 8:=⟨_,rfl⟩;have hmod:(T:Int).tmod 8=(r:Int):=by rw [Int.tmod_eq_emod_of_nonneg (by omega)];omega
 have hwr:IntKind.i64.wrap (r:Int)=(r:Int):=by rw [IntKind.wrap_i64];omega
 have hr8:r < 8:=by omega
 have HSS:=Lib.hid hs;clear hs;have HRR:=Lib.hid hr;clear hr;have HDK:=Lib.hid hDK
 go_enter Tryz.func100,Tryz.ntmps100
 go_wp2_with fail;refine (bnew_raw T w HDK.out).mono ?_;rintro e w2 ⟨g,p,m,rfl,hm,hg,hp,hbg,hbp,hk2⟩;have HX2:=Lib.hid (HX.out.kp0 hk2);by_cases hls:L ≠ s
 ·have hls1:((L:Int) != (s:Int))=true:=by simpa using (fun h:(L:Int)=(s:Int)=>hls (by omega))
  have HRE:=Lib.hid (readE_no (bs:=bs) HE.out (fun h=>hls (by rw [← HN.out,HSS.out];exact h.1)));clear hls;go_wp2_with fail;go_ret2;exact ⟨hk2,.inl ⟨by rw [HRE.out];decide,by rw [HRE.out];rfl⟩⟩
 obtain rfl:L=s:=by omega
 clear hls;by_cases hbad:0 < r∧∃ x,bs[bs.length - 1]? = some x∧x / 2 ^ r ≠ 0
 ·obtain ⟨hr0,x,hxl,hxr⟩:=hbad
  have HRE:=Lib.hid (readE_no (bs:=bs) HE.out (fun h=>hxr (by
   rw [HRR.out]
   exact (last_bits HS.out h.1 (by rw [← HRR.out];exact hr0) hxl).1 h.2)))
  have hL0:0 < L:=by have:=HSS.out;have:=HRR.out;omega
  have hxb:=HS.out x (List.mem_of_getElem? hxl);obtain ⟨X,hX⟩:∃ X,X=x / 2 ^ r:=⟨_,rfl⟩;have hdx:(x:Int) / 2 ^ r=(X:Int):=by rw [hX];simp
  have hdx':(x:Int) / 2 ^ min r 8=(X:Int):=by rw [show min r 8=r from by omega];exact hdx
  have hX0:0 < X:=by rw [hX];omega
  obtain ⟨l1,hl1⟩:∃ l1,L=l1+1:=⟨L - 1,by omega⟩;rw [HN.out,hl1] at hxl;obtain ⟨ad,rfl,_,cx⟩:=HX2.out.at_ (i:=l1) (u:=.int .u8 (x:Int)) (by simp only [Nat.add_sub_cancel] at hxl;simp [intsN,hxl]);have hwl:IntKind.i64.wrap ((L:Int) - 1)=(l1:Int):=by rw [IntKind.wrap_i64];omega
  have hwl':IntKind.i64.wrap ((l1:Int)+1 - 1)=(l1:Int):=by rw [IntKind.wrap_i64];omega
  have hll:l1 < L:=by omega
  clear hxl hxr hX hxb hl1;go_wp2_with fail;go_ret2;exact ⟨hk2,.inl ⟨by rw [HRE.out];decide,by rw [HRE.out];rfl⟩⟩
 have hgood:packN 8 bs < 2 ^ T:=by
  rcases Nat.eq_zero_or_pos r with h0 | h0
  ·exact whole_bits HS.out (by rw [HN.out];exact HSS.out) (by rw [← HRR.out];exact h0)
  ·have hL0:0 < L:=by have:=HSS.out;have:=HRR.out;omega
   obtain ⟨x,hx⟩:∃ x,bs[bs.length - 1]? = some x:=⟨_,List.getElem?_eq_getElem (by rw [HN.out];omega)⟩;refine (last_bits HS.out (by rw [HN.out];exact HSS.out) (by rw [← HRR.out];exact h0) hx).2 ?_;rw [← HRR.out];rcases Nat.eq_zero_or_pos (x / 2 ^ r) with h1 | h1
   ·exact h1
   ·exact absurd ⟨h0,x,hx,by omega⟩ hbad
 have HGD:=Lib.hid hgood;clear hgood;have HRE:=Lib.hid (readE_ok (bs:=bs) HE.out (by rw [HN.out,HSS.out]) HGD.out);have hgp:g ≠ p:=hbg.ne hbp (by decide);have HGP:=Lib.hid (show g ≠ p∧w.heap.size≤g∧w.heap.size≤p from ⟨hgp,hg,hp⟩);have HM:=Lib.hid hm;have hmb:m≤1000000:=by omega
 have hLm:L≤8 * m:=by have:=HSS.out;omega
 have HB0:=Lib.hid hbg;clear hbg;have HP0:=Lib.hid hbp;clear hbp;have HK:=Lib.hid hk2;clear hm hgp hg hp
 have hr2:r=0 ∨ (0 < r∧∃ x,bs[bs.length - 1]? = some x∧x / 2 ^ r=0):=by
  rcases Nat.eq_zero_or_pos r with h0 | h0
  ·exact .inl h0
  ·have hL0:0 < L:=by have:=HSS.out;have:=HRR.out;omega
   obtain ⟨x,hx⟩:∃ x,bs[bs.length - 1]? = some x:=⟨_,List.getElem?_eq_getElem (by rw [HN.out];omega)⟩;refine .inr ⟨h0,x,hx,?_⟩;rcases Nat.eq_zero_or_pos (x / 2 ^ r) with h1 | h1
   ·exact h1
   ·exact absurd ⟨h0,x,hx,by omega⟩ hbad
 clear hbad;rcases hr2 with hr0 | ⟨hr0,x,hxl,hxr⟩
 focus (
        subst hr0
        go_wp2_with fail)
 rotate_left
 focus (
        have hL0:0 < L:=by have:=HSS.out;have:=HRR.out;omega
        have hxb:=HS.out x (List.mem_of_getElem? hxl);have hdx:(x:Int) / 2 ^ r=0:=by rw [show (x:Int) / 2 ^ r=((x / 2 ^ r:Nat):Int) from by simp,hxr];rfl
        have hdx':(x:Int) / 2 ^ min r 8=0:=by rw [show min r 8=r from by omega];exact hdx
        obtain ⟨l1,hl1⟩:∃ l1,L=l1+1:=⟨L - 1,by omega⟩;rw [HN.out,hl1] at hxl;obtain ⟨ad,rfl,_,cx⟩:=HX2.out.at_ (i:=l1) (u:=.int .u8 (x:Int)) (by simp only [Nat.add_sub_cancel] at hxl;simp [intsN,hxl]);have hwl:IntKind.i64.wrap ((L:Int) - 1)=(l1:Int):=by rw [IntKind.wrap_i64];omega
        have hwl':IntKind.i64.wrap ((l1:Int)+1 - 1)=(l1:Int):=by rw [IntKind.wrap_i64];omega
        have hll:l1 < L:=by omega
        clear hxl hxr hxb hl1
        go_wp2_with fail)
 all_goals
  go_loopw [43] (fun x wr=>∃ (k:Nat) (ws:List Nat),x=.int .i64 (k:Int)∧k≤L∧Hid (Blk wr g 149 (wordsV ws))∧Hid (ws.length=m)∧Hid (∀ x ∈ ws,x < 2 ^ 64)∧Hid (num ws=packN 8 (bs.take k))∧Hid (Blk wr p 190 [.slice (some ⟨g,0,none⟩) m m,.slice none 0 0,.bool false,.int .i64 (T:Int),.bool true])∧Hid (Kp [] w wr)) (fun x _=>L - (intOf x).toNat)
  case atStart=>exact ⟨0,List.replicate m 0,rfl,by omega,HB0,Lib.hid List.length_replicate,Lib.hid (fun x hx=>by rw [List.eq_of_mem_replicate hx];decide),Lib.hid (by rw [num_zero];rfl),HP0,HK⟩
  case round =>
   clear HB0 HP0 HK;obtain ⟨k,ws,rfl,hk,HB,HL,HLT,HNM,HP,HK3⟩:=hrel;by_cases hlt:k < L
   ·obtain ⟨y,hy⟩:∃ y,bs[k]? = some y:=⟨_,List.getElem?_eq_getElem (by rw [HN.out];exact hlt)⟩;obtain ⟨ad2,had2,_,cy⟩:=(HX.out.kp0 HK3.out).at_ (i:=k) (u:=.int .u8 (y:Int)) (by simp [intsN,hy])
    first | (injection had2 with had2;subst had2) | subst had2
    have hyb:=HS.out y (List.mem_of_getElem? hy);have c0:=HP.out.cell 0;simp only [List.getElem?_cons_zero] at c0
    obtain ⟨q,hq⟩:∃ q,q=k / 8:=⟨_,rfl⟩;obtain ⟨r1,hr1⟩:∃ r1,r1=k % 8:=⟨_,rfl⟩;have hdiv:(k:Int).tdiv 8=(q:Int):=by rw [Int.tdiv_eq_ediv_of_nonneg (by omega)];omega
    have hmod1:(k:Int).tmod 8=(r1:Int):=by rw [Int.tmod_eq_emod_of_nonneg (by omega)];omega
    have hwq:IntKind.i64.wrap (q:Int)=(q:Int):=by rw [IntKind.wrap_i64];omega
    have hwr1:IntKind.i64.wrap (r1:Int)=(r1:Int):=by rw [IntKind.wrap_i64];omega
    have hqu:q < m:=by omega
    obtain ⟨r8,hr8'⟩:∃ r8,r8=r1 * 8:=⟨_,rfl⟩;have hw8:IntKind.i64.wrap ((r1:Int) * 8)=(r8:Int):=by rw [IntKind.wrap_i64];omega
    have hr864:r8 < 64:=by omega
    obtain ⟨z,hz⟩:∃ z,ws[q]? = some z:=⟨_,List.getElem?_eq_getElem (by rw [HL.out];exact hqu)⟩;have cz:wr.cell? ⟨g,q,none⟩=some (.int .u64 (z:Int)):=by rw [HB.out.cell];exact wordsV_get hz
    have cf:=HB.out.free q;have hzb:=HLT.out z (List.mem_of_getElem? hz);have hwy:IntKind.u64.wrap (y:Int)=(y:Int):=by rw [u64_wrap_nat];omega
    obtain ⟨Y,hY⟩:∃ Y,Y=y * 2 ^ r8:=⟨_,rfl⟩
    have hYb:Y < 2 ^ 64:=by
     rw [hY];have h1:y * 2 ^ r8 < 2 ^ 8 * 2 ^ r8:=Nat.mul_lt_mul_of_pos_right hyb (Nat.two_pow_pos _);rw [← Nat.pow_add] at h1;exact Nat.lt_of_lt_of_le h1 (Nat.pow_le_pow_right (by omega) (by omega))
    have hsh':IntKind.u64.wrap ((y:Int) * 2 ^ r8)=(Y:Int):=by
     have e:(y:Int) * 2 ^ r8=((y * 2 ^ r8:Nat):Int):=by simp
     rw [e,u64_wrap_nat,← hY,Nat.mod_eq_of_lt hYb]
    have hsh:IntKind.u64.wrap ((y:Int) * 2 ^ min r8 64)=(Y:Int):=by rw [show min r8 64=r8 from by omega];exact hsh'
    obtain ⟨Z,hZ⟩:∃ Z,Z=z ||| Y:=⟨_,rfl⟩;have hor:bits .or .u64 (z:Int) (Y:Int)=(Z:Int):=by rw [hZ];exact u64_or_nat z Y (by omega) (by omega)
    have hZb:Z < 2 ^ 64:=by rw [hZ];exact Nat.or_lt_two_pow hzb hYb
    have hkq:8 * k=64 * q+r8:=by omega
    have hnz:num ws < 2 ^ (64 * q+r8):=by
     rw [HNM.out,← hkq];have h1:=packN_lt (wd:=8) (l:=bs.take k) (fun y hy=>HS.out y (List.mem_of_mem_take hy))
     rwa [List.length_take,Nat.min_eq_left (by rw [HN.out];omega)] at h1
    have hres:=num_put1 (n:=y) hz hnz;rw [← hY,← hZ,HNM.out,← hkq] at hres
    have HRES:=Lib.hid (show num (ws.set q Z)=packN 8 (bs.take (k+1)) by
     rw [hres,take_succ_of hy,packN_snoc,List.length_take,Nat.min_eq_left (by rw [HN.out];omega)])
    have HB3:=Lib.hid (HB.out.set_ q (.int .u64 (Z:Int))).drew;have HP3:=Lib.hid (HP.out.far (p:=⟨g,q,none⟩) (Ne.symm HGP.out.1) (.int .u64 (Z:Int))).drew;have HL3:=Lib.hid (show (ws.set q Z).length=m by rw [List.length_set,HL.out]);have HLT3:=Lib.hid (set_lt (q:=q) HLT.out hZb);have HKK:=Lib.hid ((HK3.out.setCell (p:=⟨g,q,none⟩) (.inr HGP.out.2.1) (.int .u64 (Z:Int))).drew);rw [wordsV_set] at HB3;clear hy hyb hq hr1 hr8' hz hzb hY hYb hZ hZb hkq hnz hres;go_wp2_with fail
    go_region
    go_wp2_with fail;exact ⟨⟨k+1,ws.set q Z,by go_num,by omega,HB3,HL3,HLT3,HRES,HP3,HKK⟩,by simp [intOf];omega⟩
   ·obtain rfl:L=k:=by omega
    have HROW:=Lib.hid (show VecM wr [p,g] p (bitsOf T (packN 8 bs)) false from by
     refine ⟨g,ws,none,0,0,[],?_,HB.out,HLT.out,?_,?_,?_,?_,?_,rfl⟩
     ·rw [bitsOf_len,HL.out];exact HP.out
     ·rw [bitsOf_len,HL.out,HM.out]
     ·rw [HNM.out,List.take_of_length_le (by rw [HN.out];exact Nat.le_refl _),bitsOf_eq HGD.out]
     ·rw [bitsOf_len];exact HDK.out
     ·exact ⟨rfl,.inl ⟨rfl,rfl⟩⟩
     ·intro h;cases h)
    have HSB:=Lib.hid (show ∀ x ∈ [p,g],w.heap.size≤x from by
     intro x hx;simp only [List.mem_cons,List.not_mem_nil,or_false] at hx
     rcases hx with rfl | rfl
     ·exact HGP.out.2.2
     ·exact HGP.out.2.1)
    go_wp2_with fail;go_ret2;exact ⟨HK3.out,.inr ⟨HRE.out,HE.out,by rw [HN.out,HSS.out],HGD.out,[p,g],p,rfl,HROW.out,HSB.out⟩⟩
def RefV (w:World) (S:List Nat) (p:Nat) (bs:List Bool):Prop:=
 ∃ (A:Option Addr) (c:Nat),Blk w p 146 [.slice A bs.length c]∧w.ownsRow 0 4 1 (.slice A bs.length c) bs.length (bs.map .bool)∧S=p :: ownL (.slice A bs.length c)
theorem RefV.kp {w w':World} {S T:List Nat} {p:Nat} {bs:List Bool} (h:RefV w S p bs) (hk:Kp T w w') (hd:∀ g ∈ S,g ∉ T):RefV w' S p bs:=by
 obtain ⟨A,c,h1,h2,rfl⟩:=h;exact ⟨A,c,h1.kp hk (hd p (by simp)),own_kp h2 hk (fun x hx=>hd x (by simp [mem_ownL,hx])),rfl⟩
theorem RefV.kp0 {w w':World} {S:List Nat} {p:Nat} {bs:List Bool} (h:RefV w S p bs) (hk:Kp [] w w'):RefV w' S p bs:=h.kp hk (by simp)
theorem RefV.open {w:World} {S:List Nat} {p:Nat} {bs:List Bool} (h:RefV w S p bs):∃ (A:Option Addr) (c:Nat),w.cell? ⟨p,0,none⟩=some (.slice A bs.length c)∧Rd w w.heap.size A (bs.map .bool):=by
 obtain ⟨A,c,h1,h2,_⟩:=h;exact ⟨A,c,by rw [h1.cell];rfl,own_rd h2⟩

theorem rbget_any (S:List Nat) (p:Nat) (i:Int) (bs:List Bool) (w:World) (h:RefV w S p bs) :
  Calls Tryz.prog 106 #[.pointer (some ⟨p,0,none⟩),.int .i64 i] w fun e w'=>e=.returned (.bool (getB bs i))∧w=w':=by
 obtain ⟨A,c,c0,hr⟩:=h.open;obtain ⟨n,hn⟩:∃ n,n=bs.length:=⟨_,rfl⟩;rw [← hn] at c0;have HN:=Lib.hid hn;clear hn;by_cases h0:i < 0
 ·have HG:=Lib.hid (show getB bs i=false by unfold getB;rw [if_pos h0]);rw [HG.out];clear hr
  go_enter Tryz.func106,Tryz.ntmps106
  go_wp2_with fail;go_ret;exact ⟨rfl,rfl⟩
 ·obtain ⟨I,rfl⟩:∃ I:Nat,i=(I:Int):=⟨i.toNat,by omega⟩;by_cases h1:I < n
  ·obtain ⟨b,hb⟩:∃ b,bs[I]? = some b:=⟨_,List.getElem?_eq_getElem (by rw [← HN.out];exact h1)⟩;obtain ⟨ad,rfl,_,hcx⟩:=hr.at_ (i:=I) (u:=.bool b) (by simp [hb])
   have HG:=Lib.hid (show getB bs (I:Int)=b by
    unfold getB;rw [if_neg h0,Int.toNat_natCast,List.getD_eq_getElem?_getD,hb]
    rfl)
   rw [HG.out];have h2:(I:Int) < (n:Int):=by omega
   clear hr hb
   go_enter Tryz.func106,Tryz.ntmps106
   go_wp2_with fail;go_ret;exact ⟨rfl,rfl⟩
  ·have HG:=Lib.hid (show getB bs (I:Int)=false by
    unfold getB;rw [if_neg h0,Int.toNat_natCast,List.getD_eq_getElem?_getD,List.getElem?_eq_none (by rw [← HN.out];omega)]
    rfl)
   rw [HG.out];clear hr
   go_enter Tryz.func106,Tryz.ntmps106
   go_wp2_with fail;go_ret;exact ⟨rfl,rfl⟩
theorem cntI_next {bs:List Bool} {k:Nat} {b:Bool} (h:bs[k]? = some b):cntI bs (k+1)=cntI bs k+b.toNat:=by
 unfold cntI;rw [take_succ_of h,List.count_append]
 cases b <;> rfl

set_option maxHeartbeats 2000000 in
theorem rbbytes_any (S:List Nat) (p:Nat) (bs:List Bool) (w:World) (h:RefV w S p bs) (hl:bs.length≤16777216) :
  Calls Tryz.prog 45 #[.pointer (some ⟨p,0,none⟩)] w fun e w'=>∃ g m,m=(bs.length+7) / 8∧e=.returned (.slice (some ⟨g,0,none⟩) m m)∧Blk w' g 5 ((bytesN (bitN bs) m).map (.int .u8))∧w.heap.size≤g∧Kp [] w w':=by
 obtain ⟨i0,hi,hz0,hz1,hz2⟩:=info_parts Tryz.info_u8;have HV:=Lib.hid h;obtain ⟨A,c,c0,hr⟩:=h.open;obtain ⟨n,hn⟩:∃ n,n=bs.length:=⟨_,rfl⟩;rw [← hn] at c0 hl;have hw2:IntKind.i64.wrap ((n:Int)+7)=((n+7:Nat):Int):=by rw [IntKind.wrap_i64];omega
 obtain ⟨m,hm⟩:∃ m,m=(n+7) / 8:=⟨_,rfl⟩;have hw3:Int.tdiv ((n:Int)+7) 8=(m:Int):=by rw [Int.tdiv_eq_ediv_of_nonneg (by omega)];omega
 have hwm:IntKind.i64.wrap (m:Int)=(m:Int):=by rw [IntKind.wrap_i64];omega
 have hmb:m≤3000000:=by omega
 have hmk:=run_make_list (P:=Tryz.prog) 41 5 i0 (.int .u8 0) Tryz.underlying41 hi hz0 hz1 rfl .i64 .i64 m (by rw [hz2];omega) (by omega);have HC:=Lib.hid c0;have HX:=Lib.hid hr;have HM:=Lib.hid (show m=(bs.length+7) / 8 by rw [hm,hn]);have HN:=Lib.hid hn;have hnm:n≤8 * m:=by omega
 clear hm hn hr h hi hz0 hz1 hz2
 go_enter Tryz.func45,Tryz.ntmps45
 go_wp2_with fail
 have HG0:=Lib.hid (show Blk (w.alloc (.cells (Array.replicate m (.int .u8 0)) 5)) w.heap.size 5 ((bytesN (bitN bs % 2 ^ 0) m).map (.int .u8)) by
  rw [Nat.pow_zero,Nat.mod_one,bytesN_zero];have h2:Blk (w.alloc (.cells (Array.replicate m (.int .u8 0)) 5)) w.heap.size 5 ((List.replicate m (0:Int)).map (.int .u8)):=by simpa using Blk.new w 5 (List.replicate m (.int .u8 0))
  exact h2)
 go_loopw [4] (fun x wr=>∃ i:Nat,x=.int .i64 (i:Int)∧i≤n∧Hid (Blk wr w.heap.size 5 ((bytesN (bitN bs % 2 ^ i) m).map (.int .u8)))∧Hid (Kp [] w wr)) (fun x _=>n - (intOf x).toNat)
 case atStart=>exact ⟨0,rfl,by omega,HG0,Lib.hid ((Kp.refl [] w).alloc _)⟩
 case round =>
  clear HG0 c0;obtain ⟨i,rfl,hin,HB,HK⟩:=hrel;have c0:wr.cell? ⟨p,0,none⟩=some (.slice A n c):=HK.out.cell HC.out (by simp);by_cases hlt:i < n
  ·obtain ⟨b,hb⟩:∃ b,bs[i]? = some b:=⟨_,List.getElem?_eq_getElem (by rw [← HN.out];exact hlt)⟩;obtain ⟨ad,rfl,_,hcx⟩:=(HX.out.kp0 HK.out).at_ (i:=i) (u:=.bool b) (by simp [hb]);have hbit:=bitN_bit hb;have hstep:=bytesN_step (N:=bitN bs) (a:=i) (m:=m) (by omega);obtain ⟨q,hq⟩:∃ q,q=i / 8:=⟨_,rfl⟩;obtain ⟨r,hr⟩:∃ r,r=i % 8:=⟨_,rfl⟩;obtain ⟨N,hN⟩:∃ N,N=bitN bs:=⟨_,rfl⟩;rw [← hN] at HB hbit hstep;obtain ⟨old,hold⟩:∃ old,old=N % 2 ^ i / 2 ^ (8 * q) % 256:=⟨_,rfl⟩;rw [hbit,← hq,← hr,← hold] at hstep;have hqm:q < m:=by omega
   have cq:wr.cell? ⟨w.heap.size,q,none⟩=some (.int .u8 (old:Int)):=by
    rw [HB.out.cell,List.getElem?_map,bytesN_get _ hqm,← hold];rfl
   have cf:=HB.out.free q
   have hob:old < 2 ^ r:=by
    have h1:N % 2 ^ i / 2 ^ (8 * q) < 2 ^ r:=by
     rw [Nat.div_lt_iff_lt_mul (Nat.two_pow_pos _),← Nat.pow_add,show r+8 * q=i from by omega];exact Nat.mod_lt _ (Nat.two_pow_pos _)
    have h2:old≤N % 2 ^ i / 2 ^ (8 * q):=by rw [hold];exact Nat.mod_le _ _
    omega
   cases b with
   | false =>
     have e:(bytesN (N % 2 ^ i) m).set q ((old:Nat):Int)=bytesN (N % 2 ^ i) m:=by
      rw [hold]
      apply List.ext_getElem?
      intro j;rw [List.getElem?_set];by_cases hj:q=j
      ·subst hj;rw [if_pos rfl,if_pos (by rw [bytesN_len];exact hqm),bytesN_get _ hqm]
      ·rw [if_neg hj]
     have hs2:(bytesN (N % 2 ^ i) m).set q ((old+false.toNat * 2 ^ r:Nat):Int)=bytesN (N % 2 ^ (i+1)) m:=hstep;rw [show old+false.toNat * 2 ^ r=old by simp,e] at hs2;have HB2:=Lib.hid (show Blk wr w.heap.size 5 ((bytesN (bitN bs % 2 ^ (i+1)) m).map (.int .u8)) by rw [← hN,← hs2];exact HB.out);clear hb hbit hstep hq hr hN hold hqm cq cf hob e hs2 HB;go_wp2_with fail;exact ⟨⟨i+1,by go_num,by omega,HB2,HK⟩,by simp [intOf];omega⟩
   | true =>
     have hdiv:(i:Int).tdiv 8=(q:Int):=by rw [Int.tdiv_eq_ediv_of_nonneg (by omega)];omega
     have hmod:(i:Int).tmod 8=(r:Int):=by rw [Int.tmod_eq_emod_of_nonneg (by omega)];omega
     have hwq:IntKind.i64.wrap (q:Int)=(q:Int):=by rw [IntKind.wrap_i64];omega
     have hwr:IntKind.i64.wrap (r:Int)=(r:Int):=by rw [IntKind.wrap_i64];omega
     have hr8:r < 8:=by omega
     have hu8:∀ z:Nat,z < 256→IntKind.u8.wrap (z:Int)=(z:Int):=fun z hz=>by
      have:IntKind.u8.wrap (z:Int)=(z:Int) % 256:=by simp [IntKind.wrap,IntKind.signed,IntKind.bits]
      rw [this];omega
     obtain ⟨sh,hsh⟩:∃ sh,sh=2 ^ r:=⟨_,rfl⟩;have hp7:2 ^ r≤2 ^ 7:=Nat.pow_le_pow_right (by omega) (by omega)
     have hws2:IntKind.u8.wrap (2 ^ r)=(sh:Int):=by
      rw [show ((2:Int) ^ r)=((2 ^ r:Nat):Int) from by simp,← hsh];exact hu8 sh (by omega)
     have hws:IntKind.u8.wrap (1 * 2 ^ r)=(sh:Int):=by rw [Int.one_mul];exact hws2
     have hws':IntKind.u8.wrap (1 * 2 ^ min r 8)=(sh:Int):=by rw [show min r 8=r from by omega];exact hws
     have hws3:IntKind.u8.wrap (2 ^ min r 8)=(sh:Int):=by rw [show min r 8=r from by omega];exact hws2
     have hwn:IntKind.u8.wrap ((old:Int)+(sh:Int))=((old+sh:Nat):Int):=hu8 (old+sh) (by omega)
     have hs2:(bytesN (N % 2 ^ i) m).set q ((old+sh:Nat):Int)=bytesN (N % 2 ^ (i+1)) m:=by
      rw [← hstep,hsh]
      show _=(bytesN (N % 2 ^ i) m).set q ((old+1 * 2 ^ r:Nat):Int)
      rw [Nat.one_mul]
     have HST:=Lib.hid hs2;have HNN:=Lib.hid hN;clear hb hbit hstep hq hr hN hold hob hu8 hsh hp7 hs2;go_wp2_with fail
     go_region
     go_wp2_with fail;have h:=(HB.out.set_ q (.int .u8 ((old+sh:Nat):Int))).drew;rw [← List.map_set,HST.out,HNN.out,Int.natCast_add] at h;exact ⟨⟨i+1,by go_num,by omega,Lib.hid h,Lib.hid ((HK.out.setCell (.inr (Nat.le_refl _)) _).drew)⟩,by simp [intOf];omega⟩
  ·obtain rfl:n=i:=by omega
   have hN:bitN bs % 2 ^ n=bitN bs:=Nat.mod_eq_of_lt (by rw [HN.out];exact bitN_lt bs);have HB2:=Lib.hid (show Blk wr w.heap.size 5 ((bytesN (bitN bs) m).map (.int .u8)) by have:=HB.out;rwa [hN] at this);clear hN;go_wp2_with fail;go_ret;exact ⟨w.heap.size,m,HM.out,rfl,HB2.out,Nat.le_refl _,HK.out⟩
theorem Tryz.info_bool_:(Tryz.prog.info? 4).map (fun i=>(i.zero,i.size,i.bytes))=some (some (.bool false),1,1):=by kernel_rfl
theorem rbnew_no (n:Int) (w:World) (h:lenE n ≠ 0):Calls Tryz.prog 94 #[.int .i64 n] w fun e w'=>e=.returned (.tuple #[.pointer none,.int .i64 (lenE n)])∧w=w':=by
 by_cases h0:n < 0
 ·have HE:=Lib.hid (show lenE n=2 by unfold lenE;rw [if_pos h0]);rw [HE.out];clear h
  go_enter Tryz.func94,Tryz.ntmps94
  go_wp2_with fail;go_ret2;exact ⟨rfl,rfl⟩
 ·by_cases h1:16777216 < n
  ·have HE:=Lib.hid (show lenE n=3 by unfold lenE;rw [if_neg h0,if_pos h1]);rw [HE.out];clear h
   go_enter Tryz.func94,Tryz.ntmps94
   go_wp2_with fail;go_ret2;exact ⟨rfl,rfl⟩
  ·exact absurd (show lenE n=0 by unfold lenE;rw [if_neg h0,if_neg h1]) h

set_option maxHeartbeats 2000000 in
theorem rbnew_raw (n:Nat) (w:World) (h:n≤16777216):Calls Tryz.prog 94 #[.int .i64 n] w fun e w' =>
  ∃ g p,e=.returned (.tuple #[.pointer (some ⟨p,0,none⟩),.int .i64 0])∧w.heap.size≤g∧w.heap.size≤p∧g ≠ p∧Blk w' g 4 ((List.replicate n false).map .bool)∧Blk w' p 146 [.slice (some ⟨g,0,none⟩) n n]∧Kp [] w w':=by
 obtain ⟨i0,hi,hz0,hz1,hz2⟩:=info_parts Tryz.info_bool_;have hmk:=run_make_list (P:=Tryz.prog) 80 4 i0 (.bool false) Tryz.underlying80 hi hz0 hz1 rfl .i64 .i64 n (by rw [hz2];omega) (by omega);clear hi hz0 hz1 hz2
 go_enter Tryz.func94,Tryz.ntmps94
 go_wp2_with fail;go_ret2;have b1:=Blk.new w 4 (List.replicate n (.bool false));have b2:=Blk.new (w.alloc (.cells (List.replicate n (.bool false)).toArray 4)) 146 [.slice (some ⟨w.heap.size,0,none⟩) n n];have e:(w.alloc (.cells (List.replicate n (.bool false)).toArray 4)).heap.size=w.heap.size+1:=by simp
 rw [e] at b2;refine ⟨w.heap.size,w.heap.size+1,rfl,Nat.le_refl _,Nat.le_succ _,by omega,?_,?_,((Kp.refl [] w).alloc _).alloc _⟩
 ·have:=b1.alloc (.cells [.slice (some ⟨w.heap.size,0,none⟩) n n].toArray 146);simpa using this
 ·simpa using b2
theorem RefV.of_blk {w:World} {g p n:Nat} {bs:List Bool} (hn:bs.length=n) (hm:n≤maxLen) (hg:Blk w g 4 (bs.map .bool)) (hp:Blk w p 146 [.slice (some ⟨g,0,none⟩) n n]):RefV w [p,g] p bs:=by
 subst hn;refine ⟨some ⟨g,0,none⟩,bs.length,hp,?_,rfl⟩;exact own_of_blk (xs:=bs.map .bool) (rest:=[]) (by rw [List.append_nil];exact hg) (Nat.zero_le _) (Nat.le_refl _) hm (by simp) (by simp)

theorem top_zero {N n:Nat}:∀ {j:Nat},n≤j→N < 2 ^ j→(∀ i,n≤i→i < j→N / 2 ^ i % 2=0)→N < 2 ^ n
 | 0,hj,h,_=>by
   obtain rfl:n=0:=by omega
   exact h
 | j+1,hj,h,hb=>by
   by_cases hnj:n=j+1
   ·rw [hnj];exact h
   ·refine top_zero (j:=j) (by omega) ?_ (fun i h1 h2=>hb i h1 (by omega));have h1:=hb j (by omega) (by omega);have h2:N / 2 ^ j < 2:=by rw [Nat.div_lt_iff_lt_mul (Nat.two_pow_pos _),Nat.mul_comm,← Nat.pow_succ];exact h
    have h3:N / 2 ^ j=0:=by
     obtain ⟨z,hz⟩:∃ z,z=N / 2 ^ j:=⟨_,rfl⟩;rw [← hz] at h1 h2 ⊢;omega
    rw [Nat.div_eq_zero_iff] at h3;have:=Nat.two_pow_pos j;omega

theorem rbread_any (n:Int) (A:Option Addr) (L c B:Nat) (bs:List Nat) (w:World) (hx:Rd w B A ((intsN bs).map (.int .u8))) (hn:bs.length=L) (hb:L≤1000000000) (hs:∀ y ∈ bs,y < 2 ^ 8) :
  Calls Tryz.prog 105 #[.int .i64 n,.slice A L c] w fun e w'=>Kp [] w w'∧((readE n bs ≠ 0∧e=.returned (.tuple #[.pointer none,.int .i64 (readE n bs)])) ∨
   (readE n bs=0∧∃ S p,e=.returned (.tuple #[.pointer (some ⟨p,0,none⟩),.int .i64 0])∧RefV w' S p (bitsOf n.toNat (packN 8 bs))∧(∀ x ∈ S,w.heap.size≤x))):=by
 have HX:=Lib.hid hx;clear hx;have HN:=Lib.hid hn;clear hn;have HS:=Lib.hid hs;clear hs;by_cases he:lenE n ≠ 0
 ·have HE:=Lib.hid he;have HR:=Lib.hid (readE_err (bs:=bs) he);have hE1:(lenE n != 0)=true:=by simpa using he
  obtain ⟨E,hE⟩:∃ E,E=lenE n:=⟨_,rfl⟩;rw [← hE] at hE1;have HEE:=Lib.hid hE;clear hE he
  go_enter Tryz.func105,Tryz.ntmps105
  go_wp2_with fail;refine (rbnew_no n w HE.out).mono ?_;rintro e w2 ⟨rfl,rfl⟩;rw [← HEE.out];go_wp2_with fail;go_ret2;exact ⟨Kp.refl [] w,.inl ⟨by rw [HR.out];exact HE.out,by rw [HR.out,HEE.out];rfl⟩⟩
 have he0:lenE n=0:=by omega
 have hwn:=lenE_ok he0;obtain ⟨T,rfl⟩:∃ T:Nat,n=(T:Int):=⟨n.toNat,by omega⟩;have hDK:T≤16777216:=by omega
 have HE:=Lib.hid he0;clear he he0;rw [Int.toNat_natCast];have hw2:IntKind.i64.wrap ((T:Int)+7)=((T+7:Nat):Int):=by rw [IntKind.wrap_i64];omega
 obtain ⟨s,hs⟩:∃ s,s=(T+7) / 8:=⟨_,rfl⟩;have hw3:Int.tdiv ((T:Int)+7) 8=(s:Int):=by rw [Int.tdiv_eq_ediv_of_nonneg (by omega)];omega
 have hws:IntKind.i64.wrap (s:Int)=(s:Int):=by rw [IntKind.wrap_i64];omega
 have HSS:=Lib.hid hs;clear hs;have HDK:=Lib.hid hDK
 go_enter Tryz.func105,Tryz.ntmps105
 go_wp2_with fail;refine (rbnew_raw T w HDK.out).mono ?_;rintro e w2 ⟨g,p,rfl,hg,hp,hgp,hbg,hbp,hk2⟩;by_cases hls:L ≠ s
 ·have hls1:((L:Int) != (s:Int))=true:=by simpa using (fun h:(L:Int)=(s:Int)=>hls (by omega))
  have HRE:=Lib.hid (readE_no (bs:=bs) HE.out (fun h=>hls (by rw [← HN.out,HSS.out];exact h.1)));clear hls;go_wp2_with fail;go_ret2;exact ⟨hk2,.inl ⟨by rw [HRE.out];decide,by rw [HRE.out];rfl⟩⟩
 obtain rfl:L=s:=by omega
 clear hls;have hw8:IntKind.i64.wrap (8 * (L:Int))=((8 * L:Nat):Int):=by rw [IntKind.wrap_i64];omega
 have hw8':8 * (L:Int)=((8 * L:Nat):Int):=by omega
 obtain ⟨M,hM⟩:∃ M,M=8 * L:=⟨_,rfl⟩;rw [← hM] at hw8;have hw8c:=hw8;obtain ⟨N,hN⟩:∃ N,N=packN 8 bs:=⟨_,rfl⟩
 have HNB:=Lib.hid (show N < 2 ^ M by
  have h1:=packN_lt (wd:=8) (l:=bs) HS.out;rw [HN.out,← hM,← hN] at h1
  exact h1)
 have HNN:=Lib.hid hN;have HM:=Lib.hid hM;have hTM:T≤M:=by have:=HSS.out;omega
 have hMb:M≤16777230:=by have:=HSS.out;omega
 have HGP:=Lib.hid (show g ≠ p∧w.heap.size≤g∧w.heap.size≤p from ⟨hgp,hg,hp⟩)
 have HB0:=Lib.hid (show Blk w2 g 4 ((ofL (bitsOf T N) (min 0 T)).map .bool) by
  rw [Nat.zero_min];unfold ofL;rw [bitsOf_len,List.take_zero,List.nil_append]
  exact hbg)
 have HP0:=Lib.hid hbp;have HK0:=Lib.hid hk2;clear hN hM hw8' hg hp hgp hbg hbp hk2;go_wp2_with fail
 go_loopw [8] (fun x wr=>∃ (k:Nat),x=.int .i64 (k:Int)∧k≤M∧Hid (Blk wr g 4 ((ofL (bitsOf T N) (min k T)).map .bool))∧Hid (Blk wr p 146 [.slice (some ⟨g,0,none⟩) T T])∧Hid (Kp [] w wr)∧Hid (∀ i,T≤i→i < k→N / 2 ^ i % 2=0)) (fun x _=>M - (intOf x).toNat)
 case atStart=>exact ⟨0,rfl,by omega,HB0,HP0,HK0,Lib.hid (fun i _ h=>by omega)⟩
 case round =>
  clear HB0 HP0 HK0;obtain ⟨k,rfl,hk,HB,HP,HK,HZ⟩:=hrel;by_cases hlt:k < M
  ·obtain ⟨q,hq⟩:∃ q,q=k / 8:=⟨_,rfl⟩;obtain ⟨r,hr⟩:∃ r,r=k % 8:=⟨_,rfl⟩;have hqL:q < L:=by have:=HM.out;omega
   obtain ⟨y,hy⟩:∃ y,bs[q]? = some y:=⟨_,List.getElem?_eq_getElem (by rw [HN.out];exact hqL)⟩;obtain ⟨ad,rfl,_,cy⟩:=(HX.out.kp0 HK.out).at_ (i:=q) (u:=.int .u8 (y:Int)) (by simp [intsN,hy]);have hyb:=HS.out y (List.mem_of_getElem? hy);have hdiv:(k:Int).tdiv 8=(q:Int):=by rw [Int.tdiv_eq_ediv_of_nonneg (by omega)];omega
   have hmod:(k:Int).tmod 8=(r:Int):=by rw [Int.tmod_eq_emod_of_nonneg (by omega)];omega
   have hwq:IntKind.i64.wrap (q:Int)=(q:Int):=by rw [IntKind.wrap_i64];omega
   have hwr:IntKind.i64.wrap (r:Int)=(r:Int):=by rw [IntKind.wrap_i64];omega
   have hr8:r < 8:=by omega
   obtain ⟨X,hX⟩:∃ X,X=y / 2 ^ r:=⟨_,rfl⟩;have hXb:X≤y:=by rw [hX];exact Nat.div_le_self _ _
   have hdx:(y:Int) / 2 ^ r=(X:Int):=by rw [hX];simp
   have hdx':(y:Int) / 2 ^ min r 8=(X:Int):=by rw [show min r 8=r from by omega];exact hdx
   obtain ⟨t,ht⟩:∃ t,t=X % 2:=⟨_,rfl⟩
   have hbt:N / 2 ^ k % 2=t:=by
    have:=bit_at (wd:=8) HS.out hy hr8;rw [HNN.out,ht,hX,show k=8 * q+r by omega];exact this
   have hmt:(X:Int).tmod 2=(t:Int):=by rw [Int.tmod_eq_emod_of_nonneg (by omega)];omega
   have hu8:∀ z:Nat,z < 256→IntKind.u8.wrap (z:Int)=(z:Int):=fun z hz=>by
    have:IntKind.u8.wrap (z:Int)=(z:Int) % 256:=by simp [IntKind.wrap,IntKind.signed,IntKind.bits]
    rw [this];omega
   have hwt:IntKind.u8.wrap (t:Int)=(t:Int):=hu8 t (by omega);have hwX:IntKind.u8.wrap (X:Int)=(X:Int):=hu8 X (by omega);have c0:=HP.out.cell 0;simp only [List.getElem?_cons_zero] at c0
   by_cases hkT:k < T
   ·have hbk:(bitsOf T N)[k]? = some (t == 1):=by rw [bitsOf_get hkT,hbt]
    have HST:=Lib.hid (show ofL (bitsOf T N) (min (k+1) T)=(ofL (bitsOf T N) (min k T)).set k (t == 1) by
     rw [show min (k+1) T=k+1 by omega,show min k T=k by omega]
     exact ofL_succ hbk)
    have HZ2:=Lib.hid (show ∀ i,T≤i→i < k+1→N / 2 ^ i % 2=0 from fun i h1 h2=>by omega);have cf:=HB.out.free k
    have cg:∃ u,wr.cell? ⟨g,k,none⟩=some u:=by
     rw [HB.out.cell,List.getElem?_map];exact ⟨_,by rw [List.getElem?_eq_getElem (by rw [ofL_len (by rw [bitsOf_len];omega),bitsOf_len];exact hkT)];rfl⟩
    obtain ⟨u,cu⟩:=cg;rcases (show t=0 ∨ t=1 by omega) with ht0 | ht1
    ·subst ht0;clear hy hyb hq hr hX hXb ht hbt hu8 hbk;have HB2:=Lib.hid (HB.out.set_ k (.bool false));rw [← List.map_set,show (ofL (bitsOf T N) (min k T)).set k false=ofL (bitsOf T N) (min (k+1) T) from HST.out.symm] at HB2;have HP2:=Lib.hid (HP.out.far (p:=⟨g,k,none⟩) (Ne.symm HGP.out.1) (.bool false));have HK2:=Lib.hid (HK.out.setCell (p:=⟨g,k,none⟩) (.inr HGP.out.2.1) (.bool false));go_wp2_with fail;exact ⟨⟨k+1,by go_num,by omega,HB2,HP2,HK2,HZ2⟩,by simp [intOf];omega⟩
    ·subst ht1;clear hy hyb hq hr hX hXb ht hbt hu8 hbk;have HB2:=Lib.hid (HB.out.set_ k (.bool true));rw [← List.map_set,show (ofL (bitsOf T N) (min k T)).set k true=ofL (bitsOf T N) (min (k+1) T) from HST.out.symm] at HB2;have HP2:=Lib.hid (HP.out.far (p:=⟨g,k,none⟩) (Ne.symm HGP.out.1) (.bool true));have HK2:=Lib.hid (HK.out.setCell (p:=⟨g,k,none⟩) (.inr HGP.out.2.1) (.bool true));go_wp2_with fail;exact ⟨⟨k+1,by go_num,by omega,HB2,HP2,HK2,HZ2⟩,by simp [intOf];omega⟩
   ·have hTk:T≤k:=by omega
    rcases (show t=0 ∨ t=1 by omega) with ht0 | ht1
    ·subst ht0
     have HZ2:=Lib.hid (show ∀ i,T≤i→i < k+1→N / 2 ^ i % 2=0 from fun i h1 h2=>by
      rcases Nat.lt_or_ge i k with h | h
      ·exact HZ.out i h1 h
      ·obtain rfl:i=k:=by omega
       exact hbt)
     have HB2:=Lib.hid (show Blk wr g 4 ((ofL (bitsOf T N) (min (k+1) T)).map .bool) by rw [show min (k+1) T=min k T by omega];exact HB.out);clear hy hyb hq hr hX hXb ht hbt hu8;go_wp2_with fail;exact ⟨⟨k+1,by go_num,by omega,HB2,HP,HK,HZ2⟩,by simp [intOf];omega⟩
    ·subst ht1
     have HRE:=Lib.hid (readE_no (bs:=bs) HE.out (fun h=>by
      have h2:=h.2;rw [← HNN.out] at h2;have h3:N / 2 ^ k=0:=Nat.div_eq_of_lt (Nat.lt_of_lt_of_le h2 (Nat.pow_le_pow_right (by omega) hTk));rw [h3] at hbt
      omega))
     clear hy hyb hq hr hX hXb ht hbt hu8;go_wp2_with fail;go_ret2;exact ⟨HK.out,.inl ⟨by rw [HRE.out];decide,by rw [HRE.out];rfl⟩⟩
  ·obtain rfl:M=k:=by omega
   have hlow:=top_zero hTM HNB.out HZ.out;have HRE:=Lib.hid (readE_ok (bs:=bs) HE.out (by rw [HN.out,HSS.out]) (by rw [← HNN.out];exact hlow))
   have HRV:=Lib.hid (show RefV wr [p,g] p (bitsOf T N) from RefV.of_blk (bitsOf_len _ _) (by unfold maxLen;omega) (by
    have h:=HB.out;have e:=ofL_all (bitsOf T N);rw [bitsOf_len] at e;rw [show min M T=T by omega,e] at h
    exact h) HP.out)
   have HSB:=Lib.hid (show ∀ x ∈ [p,g],w.heap.size≤x from by
    intro x hx;simp only [List.mem_cons,List.not_mem_nil,or_false] at hx
    rcases hx with rfl | rfl
    ·exact HGP.out.2.2
    ·exact HGP.out.2.1)
   clear hlow;go_wp2_with fail;go_ret2;exact ⟨HK.out,.inr ⟨HRE.out,[p,g],p,rfl,by rw [← HNN.out];exact HRV.out,HSB.out⟩⟩
def VecI (S0:List Nat) (B p:Nat) (bs:List Bool) (w:World):Prop:=∃ S c,VecM w S p bs c∧(c=false→S=S0)∧B≤w.heap.size∧∀ x ∈ S,x ∈ S0 ∨ B≤x
def VecC (S0:List Nat) (B p:Nat) (bs:List Bool) (w:World):Prop:=∃ S,VecM w S p bs true∧B≤w.heap.size∧∀ x ∈ S,x ∈ S0 ∨ B≤x
theorem VecI.kp0 {S0:List Nat} {B p:Nat} {bs:List Bool} {w w':World} (h:VecI S0 B p bs w) (hk:Kp [] w w'):VecI S0 B p bs w':=by
 obtain ⟨S,c,h1,h2,h3,h4⟩:=h;exact ⟨S,c,h1.kp0 hk,h2,Nat.le_trans h3 hk.size,h4⟩
theorem VecC.kp0 {S0:List Nat} {B p:Nat} {bs:List Bool} {w w':World} (h:VecC S0 B p bs w) (hk:Kp [] w w'):VecC S0 B p bs w':=by
 obtain ⟨S,h1,h3,h4⟩:=h;exact ⟨S,h1.kp0 hk,Nat.le_trans h3 hk.size,h4⟩
def cntR (S0:List Nat) (B p:Nat) (bs:List Bool) (w w':World):Prop:=Kp S0 w w'∧(VecI S0 B p bs w→VecI S0 B p bs w')∧(VecC S0 B p bs w→VecC S0 B p bs w')
theorem cntR.of_kp {S0:List Nat} {B p:Nat} {bs:List Bool} {w w':World} (hk:Kp [] w w'):cntR S0 B p bs w w':=⟨hk.mono (by simp),fun h=>h.kp0 hk,fun h=>h.kp0 hk⟩
@[reducible] def cntRel (S0:List Nat) (B p:Nat) (bs:List Bool):RG.Rel where
 R:=cntR S0 B p bs
 refl w:=cntR.of_kp (Kp.refl _ w)
 trans h k:=⟨h.1.trans k.1,fun x=>k.2.1 (h.2.1 x),fun x=>k.2.2 (h.2.2 x)⟩
 drew w:=cntR.of_kp (Kp.refl [] w).drew
def IsRdS (S0:List Nat) (xs:List Int) (v:Value) (w:World):Prop:=∃ A c,v=.slice A xs.length c∧xs.length≤c∧Rd w w.heap.size A (xs.map (.int .u8))∧∀ ad,A=some ad→ad.block ∉ S0
theorem IsRdS.kp {S0:List Nat} {xs:List Int} {v:Value} {w w':World} (h:IsRdS S0 xs v w) (hk:Kp S0 w w'):IsRdS S0 xs v w':=by
 obtain ⟨A,c,h1,h2,h3,h4⟩:=h;exact ⟨A,c,h1,h2,(h3.kp_ne hk h4).here,h4⟩
theorem IsRdS.len {S0:List Nat} {xs:List Int} {v:Value} {w:World} (h:IsRdS S0 xs v w) {n:Nat} (hn:xs.length=n):∃ A c,v=.slice A n c∧n≤c∧Rd w w.heap.size A (xs.map (.int .u8))∧∀ ad,A=some ad→ad.block ∉ S0:=by
 subst hn;exact h
@[reducible] def rdS (S0:List Nat) (B p:Nat) (bs:List Bool) (xs:List Int):@RG.GFact (cntRel S0 B p bs):=@RG.GFact.mk (cntRel S0 B p bs) (IsRdS S0 xs) (fun _ _ _ h (hk:cntR S0 B p bs _ _)=>h.kp hk.1)
@[reducible] def cntF (S0:List Nat) (B p:Nat) (bs:List Bool) (u:Value):@RG.GFact (cntRel S0 B p bs):=@RG.GFact.mk (cntRel S0 B p bs) (fun v w=>v=u∧VecC S0 B p bs w) (fun _ _ _ h (hk:cntR S0 B p bs _ _)=>⟨h.1,hk.2.2 h.2⟩)
end Go.Proofs.YtanacapkfllbnaaGreatDoor
