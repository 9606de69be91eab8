/-
  LAYER 13 (section): Read.
  Plain law of layer 13: the texts of SectionEnds.
  CONDITIONS: as each lemma says.
-/
import Derived.Test.YtanacapkfllbnaaGreatDoorR47
import Derived.Test.YtanacapkfllbnaaGreatDoorR26
set_option maxRecDepth 100000
set_option maxHeartbeats 4000000
namespace Go.Proofs.YtanacapkfllbnaaGreatDoor
open Go.RowKit

theorem fourI_val (n:Nat) (h:n≤2147483647):∀ x ∈ fourI n,0≤x∧x < 256:=fun x hx=>by
 unfold fourI at hx;simp only [List.mem_cons,List.not_mem_nil,or_false] at hx
 omega
theorem pbytesN_val (N m:Nat):∀ x ∈ PK.bytesN N m,0≤x∧x < 256:=fun x hx=>by
 unfold PK.bytesN at hx;obtain ⟨j,_,rfl⟩:=List.mem_map.1 hx;omega
theorem secB_val {T:CT} {sg:List Nat} {ls:List Int} {ts:List ByteArray} (hn:ts.length≤30000) (hb:(frontB T ts).length≤9000000) (hw:wdS T ts < 256):∀ x ∈ secB T sg ls ts,0≤x∧x < 256:=fun x hx=>by
 unfold secB secR at hx;obtain ⟨l,hl,hxl⟩:=List.mem_flatten.1 hx;simp only [List.mem_cons,List.not_mem_nil,or_false] at hl
 rcases hl with rfl | rfl | rfl | rfl | rfl | rfl | rfl
 ·exact fourI_val _ (by omega) x hxl
 ·have:=bytesN_val _ _ x hxl;omega
 ·obtain ⟨y,_,rfl⟩:=List.mem_map.1 hxl;omega
 ·exact fourI_val _ (by omega) x hxl
 ·have:=bytesN_val _ _ x hxl;omega
 ·rw [List.mem_singleton.1 hxl];omega
 ·exact pbytesN_val _ _ x hxl
theorem wdS_le {T:CT} {ts:List ByteArray} (hb:(frontB T ts).length≤9000000):wdS T ts≤24:=by
 unfold wdS;refine wideF_le24 _ 1 (by omega) (fun x hx=>?_);obtain ⟨y,hy,rfl⟩:=List.mem_map.1 hx;unfold startsN at hy;obtain ⟨k,_,rfl⟩:=List.mem_map.1 hy;have:=frontB_mono T ts (8 * k);omega
theorem secBytes_val (ts:List ByteArray) (hn:ts.length≤29000) (hz:∀ s ∈ ts,s.size≤30000) (hb:(symL (piecesL ts ts.length)).length≤29000):∀ x ∈ secBytes ts,0≤x∧x < 256:=by
 by_cases h0:ts=[]
 ·subst h0;rw [secBytes_nil];exact fourI_val 0 (by omega)
 ·have hpos:0 < ts.length:=List.length_pos_iff.2 h0;obtain ⟨l,hl⟩:∃ l,l=symL (piecesL ts ts.length):=⟨_,rfl⟩
  have hzero:0 ∈ l:=by
   rw [hl];obtain ⟨s,t,e⟩:=List.exists_cons_of_ne_nil (show piecesL ts ts.length ≠ [] from fun e=>by have:=piecesL_len ts ts.length;rw [e] at this;simp at this;omega);rw [e,symL_cons];unfold symT
   simp
  rw [← hl] at hb;have hcode:=treeC_code (okMake_of hzero (by omega));have h1:=frontB_len2 hcode ts (fun s hs=>by have:=hz s hs;omega) ts.length (Nat.le_refl _);rw [List.take_length,← hl] at h1
  have hse:secBytes ts=secB (treeC (smO l) (lensL (wtO l))) (sgK l 257) (lensL (wtO l)) ts:=by
   unfold secBytes;rw [if_neg h0,← hl]
  rw [hse];have h2:=wdS_le (T:=treeC (smO l) (lensL (wtO l))) (ts:=ts) (by omega);exact secB_val (by omega) (by omega) (by omega)
noncomputable def secRead (b:List Int):Option (List ByteArray):=(readTx b).bind fun ts=>if b.take (secBytes ts).length=secBytes ts then some ts else none
theorem secRead_none {b:List Int} (h:readTx b=none):secRead b=none:=by unfold secRead;rw [h];rfl
theorem secRead_no {b:List Int} {ts:List ByteArray} (h:readTx b=some ts) (h1:b.take (secBytes ts).length ≠ secBytes ts):secRead b=none:=by unfold secRead;rw [h];exact if_neg h1
theorem secRead_yes {b:List Int} {ts:List ByteArray} (h:readTx b=some ts) (h1:b.take (secBytes ts).length=secBytes ts):secRead b=some ts:=by unfold secRead;rw [h];exact if_pos h1
theorem hasprefix_b (a1:Option Addr) (a2:Addr) (B1 B2 n m c d:Nat) (xs ys:List Int) (w:World) (hx:Rd w B1 a1 (xs.map (.int .u8))) (hy:Rd w B2 (some a2) (ys.map (.int .u8))) (hn:xs.length=n) (hm:ys.length=m) (hc:n≤c) (h1:∀ x ∈ xs,0≤x∧x < 256) (h2:∀ x ∈ ys,0≤x∧x < 256) (hm0:0 < m) :
  Calls Tryz.prog 54 #[.slice a1 n c,.slice (some a2) m d] w fun e w'=>e=.returned (.bool (decide (xs.take m=ys)))∧w=w':=by
 by_cases hmn:m≤n
 ·obtain ⟨ad,rfl⟩:∃ ad,a1=some ad:=by
   cases a1 with
   | none =>
        have h9:=hx.none_nil;have h8:xs=[]:=by simpa using h9
        rw [h8] at hn;simp at hn;omega
   | some ad=>exact ⟨ad,rfl⟩
  have hd:decide ((m:Int)≤(n:Int))=true:=by simp;omega
  have hmc:m≤c:=by omega
  have HB:=Lib.hid (fun w' (hw:w=w')=>beq_any ad a2 B1 B2 m m c d (xs.take m) ys w (by rw [List.map_take];exact hx.take m) hy (by rw [List.length_take,hn];omega) hm (fun x hx=>h1 x (List.mem_of_mem_take hx)) h2);clear hx hy hn hm h1 h2
  go_enter Tryz.func54,Tryz.ntmps54
  go_wp2_with fail;refine (HB.out w rfl).mono ?_;rintro e w1 ⟨rfl,rfl⟩;obtain ⟨r,hr⟩:∃ r,decide (xs.take m=ys)=r:=⟨_,rfl⟩;rw [hr];have HRR:=Lib.hid hr;clear hr;go_wp2_with fail;go_ret;exact ⟨by rw [HRR.out];rfl,rfl⟩
 ·have hd:decide ((m:Int)≤(n:Int))=false:=by simp;omega
  have hno:decide (xs.take m=ys)=false:=decide_eq_false (fun e=>by have:=congrArg List.length e;rw [List.length_take] at this;omega);rw [hno];clear hx hy hn hm h1 h2
  go_enter Tryz.func54,Tryz.ntmps54
  go_wp2_with fail;go_ret;exact ⟨rfl,rfl⟩
def SreadP (b:List Int) (w:World) (e:Ending) (w':World):Prop:=Kp [] w w'∧((secRead b=none∧e=.returned (.tuple #[.pointer none,.int .i64 0,.int .i64 4])) ∨
 (∃ ts,secRead b=some ts∧∃ (S:List Nat) (sp:Nat) (v:Value) (g m c:Nat),e=.returned (.tuple #[.pointer (some ⟨sp,0,none⟩),.int .i64 (m:Int),.int .i64 0])∧SecM w.heap.size w'.heap.size w' S sp v g m c ts∧(∀ x ∈ S,w.heap.size≤x)∧w.heap.size≤sp∧g ∉ S∧(w.heap.size≤g∧g < w'.heap.size)∧(secBytes ts).length=m∧m≤1000000000∧Rd w' w'.heap.size (some ⟨g,0,none⟩) ((secBytes ts).map (.int .u8))))
theorem FV.low {X X' Y:Nat} {w:World} {S:List Nat} {v:Value} {ts:List ByteArray} (h:FV X Y w S v ts) (hX:X'≤X):FV X' Y w S v ts:=by
 obtain ⟨h1,h2,h3 | ⟨f,lo,hi,lo',hi',p,T,sg,ls,h3,h4,h5,h6,h7,h8⟩⟩:=h
 ·exact ⟨h1,h2,.inl h3⟩
 ·exact ⟨h1,h2,.inr ⟨f,lo,hi,lo',hi',p,T,sg,ls,h3,h4,Nat.le_trans hX h5,h6,Nat.le_trans hX h7,h8⟩⟩
theorem sread_any (A:Option Addr) (n c B:Nat) (b:List Int) (w:World) (hx:Rd w B A (b.map (.int .u8))) (hn:b.length=n) (hc:n≤c) (hv:∀ x ∈ b,0≤x∧x≤255) (hB:B≤w.heap.size) (ht:Tab64 w) (hfit:FitB b) :
  Calls Tryz.prog 23 #[.slice A n c] w (SreadP b w):=by
 have HX:=Lib.hid hx;have HFIT:=Lib.hid hfit;have HN:=Lib.hid hn;clear hn;have HV:=Lib.hid hv;clear hv;have HT:=Lib.hid ht;clear ht;clear hx hfit
 go_enter Tryz.func23,Tryz.ntmps23
 go_wp2_with fail;obtain ⟨w1,hw1⟩:∃ w1,w1=w.alloc (.cells #[.slice A n c,.bool false] 98):=⟨_,rfl⟩;obtain ⟨rp,hrp⟩:∃ rp,rp=w.heap.size:=⟨_,rfl⟩;rw [← hw1,← hrp];have hk1:Kp [] w w1:=by rw [hw1];exact (Kp.refl [] w).alloc _
 have HRD:=Lib.hid (show RdrM w1 B rp b false from ⟨A,n,c,by rw [hw1,hrp];exact Blk.new w 98 [.slice A n c,.bool false],HX.out.kp0 hk1,HN.out,hc,by omega⟩);have HRP:=Lib.hid hrp;have HK1:=Lib.hid hk1;have HT1:=Lib.hid (HT.out.kp0 hk1);clear hw1 hrp hk1;refine (stexts_any B rp n b w1 HRD.out HN.out HV.out HT1.out (by have:=HT.out.lt;rw [HRP.out];omega) HFIT.out).mono ?_;rintro e w2 ⟨hk2,⟨hno,v,rfl⟩ | ⟨ts,A2,n2,c2,hyes,rfl,hr2,hl2⟩⟩
 ·have HK2:=Lib.hid (show Kp [] w w2 from HK1.out.trans' hk2 (fun x hx=>.inr (by rw [List.mem_singleton.1 hx,HRP.out];exact Nat.le_refl _)));have HNO:=Lib.hid (secRead_none hno);clear hk2 hno;go_wp2_with fail
  go_ret3
  exact ⟨HK2.out,.inl ⟨HNO.out,rfl⟩⟩
 have HK2:=Lib.hid (show Kp [] w w2 from HK1.out.trans' hk2 (fun x hx=>.inr (by rw [List.mem_singleton.1 hx,HRP.out];exact Nat.le_refl _)));obtain ⟨f1,f2,f3,f4⟩:=HFIT.out.res ts hyes;have HFR:=Lib.hid (And.intro f1 (And.intro f2 (And.intro f3 f4)));have HYES:=Lib.hid hyes;have HR2:=Lib.hid hr2;have HL2:=Lib.hid hl2;have HT2:=Lib.hid (HT.out.kp0 HK2.out);clear hk2 f1 f2 f3 f4 hyes hr2 hl2 HRD HK1 HT1;go_wp2_with fail;refine (sof_gen A2 n2 c2 _ ts w2 HR2.out HL2.out HFR.out.2.2.1 (by rw [← HL2.out];exact HFR.out.2.2.2) (Nat.le_refl _) HT2.out).mono ?_;rintro e w3 ⟨hk3,⟨hr,_⟩ | ⟨_,S,sp,v,g,m,c3,rfl,hsec,hS,hsp,hgS,hgs,bs,hbl,hm9,hrb,hbs⟩⟩
 ·rw [HFR.out.1] at hr;cases hr
 subst hbs;have hcs:w3.cell? ⟨sp,1,none⟩=some (.slice (some ⟨g,0,none⟩) m c3):=hsec.cells.2;have HVAL:=Lib.hid (secBytes_val ts HFR.out.2.1 HFR.out.2.2.1 HFR.out.2.2.2)
 have hm0:0 < m:=by
  rw [← hbl];unfold secBytes
  split
  ·simp [fourI]
  ·unfold secB secR;simp [fourI]
 have HSEC:=Lib.hid hsec;have HSN:=Lib.hid (And.intro hS (And.intro hsp (And.intro hgS hgs)));have HBL:=Lib.hid hbl;have HRB:=Lib.hid hrb;have HK3:=Lib.hid (HK2.out.trans hk3);have HW2:=Lib.hid HK2.out.size;have HXW:=Lib.hid (HX.out.kp0 HK3.out);clear hsec hS hsp hgS hgs hbl hrb hk3;go_wp2_with fail;refine (hasprefix_b A ⟨g,0,none⟩ _ _ n m c c3 b (secBytes ts) w3 HXW.out HRB.out HN.out HBL.out hc (fun x hx=>by have:=HV.out x hx;omega) HVAL.out hm0).mono ?_;by_cases hpre:b.take m=secBytes ts
 ·rw [decide_eq_true hpre];rintro e w4 ⟨rfl,rfl⟩;have HY:=Lib.hid (secRead_yes HYES.out (by rw [HBL.out];exact hpre));clear hpre;go_wp2_with fail
  go_quiet (fail)
  go_wp2_with fail
  go_ret3
  have hkd:=(Kp.refl [] w3).drewN nq;exact ⟨HK3.out.trans hkd,.inr ⟨ts,HY.out,S,sp,v,g,m,c3,rfl,⟨(HSEC.out.kp0 hkd).1,(HSEC.out.kp0 hkd).2.1.low HW2.out,HSEC.out.2.2⟩,fun x hx=>Nat.le_trans HW2.out (HSN.out.1 x hx),Nat.le_trans HW2.out HSN.out.2.1,HSN.out.2.2.1,⟨Nat.le_trans HW2.out HSN.out.2.2.2.1,HSN.out.2.2.2.2⟩,HBL.out,hm9,HRB.out.kp0 hkd⟩⟩
 ·rw [decide_eq_false hpre];rintro e w4 ⟨rfl,rfl⟩;have HNO:=Lib.hid (secRead_no HYES.out (by rw [HBL.out];exact hpre));clear hpre;go_wp2_with fail
  go_ret3
  exact ⟨HK3.out,.inl ⟨HNO.out,rfl⟩⟩
def tS:Nat→ByteArray
 | 0=>⟨#[]⟩
 | k+1=>tS k ++ (⟨#[97,98]⟩:ByteArray).extract (k % 2) (k % 2+1)
def dS (n:Nat):List ByteArray:=(List.range n).map tS
theorem dS_succ (n:Nat):dS (n+1)=dS n ++ [tS n]:=by unfold dS;rw [List.range_succ,List.map_append];rfl
theorem dS_len (n:Nat):(dS n).length=n:=by unfold dS;rw [List.length_map,List.length_range]
theorem tS_size:∀ n,(tS n).size≤n
 | 0=>Nat.le_refl _
 | n+1=>by
   have h:=tS_size n;have h9:=txt_len ((⟨#[97,98]⟩:ByteArray).extract (n % 2) (n % 2+1));rw [txt_extract,List.length_take] at h9
   show (tS n ++ (⟨#[97,98]⟩:ByteArray).extract (n % 2) (n % 2+1)).size≤n+1
   rw [ByteArray.size_append];omega
theorem dS_size {n:Nat} (hn:n≤30):∀ s ∈ dS n,s.size≤30:=fun s hs=>by
 unfold dS at hs;obtain ⟨k,hk,rfl⟩:=List.mem_map.1 hs;have h1:=List.mem_range.1 hk;have h2:=tS_size k;omega
def mS (i:Nat):ByteArray:=strN [i / 65536,i / 256 % 256,i % 256]
def manyS (n:Nat):List ByteArray:=(List.range n).map mS
theorem manyS_succ (n:Nat):manyS (n+1)=manyS n ++ [mS n]:=by unfold manyS;rw [List.range_succ,List.map_append];rfl
theorem manyS_len (n:Nat):(manyS n).length=n:=by unfold manyS;rw [List.length_map,List.length_range]
theorem mS_txt {i:Nat} (hi:i < 16777216):txt (mS i)=[i / 65536,i / 256 % 256,i % 256]:=txt_strN (fun x hx=>by simp at hx;omega)
theorem mS_lt {i:Nat} (hi:i+1 < 16777216):lexN (txt (mS i)) (txt (mS (i+1)))=true:=by
 rw [mS_txt (by omega),mS_txt hi];simp only [lexN]
 by_cases h1:i / 65536 < (i+1) / 65536
 ·rw [decide_eq_true h1];rfl
 ·have e1:i / 65536=(i+1) / 65536:=by omega
  rw [decide_eq_false h1,decide_eq_true e1,Bool.false_or,Bool.true_and];by_cases h2:i / 256 % 256 < (i+1) / 256 % 256
  ·rw [decide_eq_true h2];rfl
  ·have e2:i / 256 % 256=(i+1) / 256 % 256:=by omega
   have h3:i % 256 < (i+1) % 256:=by omega
   rw [decide_eq_false h2,decide_eq_true e2,Bool.false_or,Bool.true_and,decide_eq_true h3];rfl
theorem manyS_rise {n:Nat} (hn:n≤100000):riseT (manyS n)=true:=(riseT_iff _).2 (fun i s t h1 h2=>by
 have l2:=(List.getElem?_eq_some_iff.1 h2).1;rw [manyS_len] at l2;unfold manyS at h1 h2;rw [List.getElem?_map,List.getElem?_range (by omega)] at h1 h2;injection h1 with h1
 injection h2 with h2
 subst h1 h2
 exact mS_lt (by omega))
def rowsL:List (List ByteArray):=[[],[⟨#[]⟩],[⟨#[97]⟩],[⟨#[]⟩,⟨#[97]⟩,⟨#[97,98]⟩],dS 9]
theorem rowsL_rise:∀ l ∈ rowsL,riseT l=true:=by decide +kernel
theorem rowsL_sym:∀ l ∈ rowsL,(symL l).length≤200:=by decide +kernel
theorem secR_len {T:CT} {sg:List Nat} {ls:List Int} {ts:List ByteArray} (hn:ts.length≤30000) (hb:(frontB T ts).length≤9000000) (hl:ls.length≤257) (hw:wdS T ts≤24):(secB T sg ls ts).length≤10000000:=by
 unfold secB secR;have h1:(startsN T ts).length≤4000:=by rw [starts_len];omega
 have h2:wdS T ts * (startsN T ts).length≤24 * 4000:=Nat.mul_le_mul hw h1;have h3:∀ N m,(PK.bytesN N m).length=m:=fun N m=>by unfold PK.bytesN;simp
 simp only [List.flatten_cons,List.flatten_nil,List.length_append,bytesN_len,h3,fourI,List.length_cons,List.length_nil,List.length_map]
 omega
theorem secBytes_len (ts:List ByteArray) (hn:ts.length≤29000) (hz:∀ s ∈ ts,s.size≤30000) (hb:(symL (piecesL ts ts.length)).length≤29000):(secBytes ts).length≤10000000:=by
 by_cases h0:ts=[]
 ·subst h0;rw [secBytes_nil]
  simp [fourI]
 ·have hpos:0 < ts.length:=List.length_pos_iff.2 h0;obtain ⟨l,hl⟩:∃ l,l=symL (piecesL ts ts.length):=⟨_,rfl⟩
  have hzero:0 ∈ l:=by
   rw [hl];obtain ⟨s,t,e⟩:=List.exists_cons_of_ne_nil (show piecesL ts ts.length ≠ [] from fun e=>by have:=piecesL_len ts ts.length;rw [e] at this;simp at this;omega);rw [e,symL_cons];unfold symT
   simp
  rw [← hl] at hb;have hok:=okMake_of hzero (by omega);have hcode:=treeC_code hok;have h1:=frontB_len2 hcode ts (fun s hs=>by have:=hz s hs;omega) ts.length (Nat.le_refl _);rw [List.take_length,← hl] at h1
  have hse:secBytes ts=secB (treeC (smO l) (lensL (wtO l))) (sgK l 257) (lensL (wtO l)) ts:=by
   unfold secBytes;rw [if_neg h0,← hl]
  rw [hse];have h3:=codeT_len hcode;rw [List.length_map,hok.1] at h3;exact secR_len (by omega) (by omega) h3 (wdS_le (by omega))
theorem xor_u8 {x y:Nat} (hx:x < 256) (hy:y < 256):bits .xor .u8 (x:Int) (y:Int)=((x ^^^ y:Nat):Int)∧x ^^^ y < 256:=by
 have hlt:x ^^^ y < 2 ^ 8:=Nat.xor_lt_two_pow hx hy;refine ⟨?_,hlt⟩
 have h1:(BitVec.ofInt 8 (x:Int)).toNat=x:=by
  rw [BitVec.ofInt_natCast,BitVec.toNat_ofNat];exact Nat.mod_eq_of_lt (by omega)
 have h2:(BitVec.ofInt 8 (y:Int)).toNat=y:=by
  rw [BitVec.ofInt_natCast,BitVec.toNat_ofNat];exact Nat.mod_eq_of_lt (by omega)
 show IntKind.u8.wrap ((BitVec.ofInt 8 (x:Int) ^^^ BitVec.ofInt 8 (y:Int)).toNat:Int)=_
 rw [BitVec.toNat_xor,h1,h2]
 show ((x ^^^ y:Nat):Int) % 256=_
 omega
end Go.Proofs.YtanacapkfllbnaaGreatDoor
