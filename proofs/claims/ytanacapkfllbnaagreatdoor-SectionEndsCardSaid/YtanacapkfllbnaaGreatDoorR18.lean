/-
  LAYER 1's library: bits.OnesCount64.
  LAYER 1's vector in memory; its counts.
  LAYER 1: how many ones stand below a place.
  LAYER 1's library: bits.TrailingZeros64, where its table lies in memory; all ones; the closure of find.
  CONDITIONS: as each lemma says.
-/
import Derived.Test.YtanacapkfllbnaaGreatDoorR00
import Derived.Test.YtanacapkfllbnaaGreatDoorR07
import Derived.Test.YtanacapkfllbnaaGreatDoorR06
import Derived.Test.YtanacapkfllbnaaGreatDoorR10
import Derived.Laws.BitsAllLaws
import Derived.Laws.Bits128
set_option maxRecDepth 100000
set_option maxHeartbeats 4000000
namespace Go.Proofs.YtanacapkfllbnaaGreatDoor
open Go.RowKit

set_option maxRecDepth 10000 in
set_option maxHeartbeats 1000000 in
theorem ones_any (x:Nat) (w:World) (hx:x < 2 ^ 64) :
  Calls Tryz.prog 178 #[.int .u64 x] w fun e w'=>e=.returned (.int .i64 (popN 64 x:Nat))∧w=w':=by
 obtain ⟨x2,hx2⟩:∃ x2,x2=x / 2:=⟨_,rfl⟩;obtain ⟨a1,ha1⟩:∃ a1,a1=x2 &&& 6148914691236517205:=⟨_,rfl⟩;obtain ⟨a2,ha2⟩:∃ a2,a2=x &&& 6148914691236517205:=⟨_,rfl⟩;obtain ⟨a,ha⟩:∃ a,a=a1+a2:=⟨_,rfl⟩;obtain ⟨a4,ha4⟩:∃ a4,a4=a / 4:=⟨_,rfl⟩;obtain ⟨b1,hb1⟩:∃ b1,b1=a4 &&& 3689348814741910323:=⟨_,rfl⟩;obtain ⟨b2,hb2⟩:∃ b2,b2=a &&& 3689348814741910323:=⟨_,rfl⟩;obtain ⟨b,hb⟩:∃ b,b=b1+b2:=⟨_,rfl⟩;obtain ⟨b16,hb16⟩:∃ b16,b16=b / 16:=⟨_,rfl⟩;obtain ⟨bb,hbb⟩:∃ bb,bb=b16+b:=⟨_,rfl⟩;obtain ⟨c,hc⟩:∃ c,c=bb &&& 1085102592571150095:=⟨_,rfl⟩;obtain ⟨c8,hc8⟩:∃ c8,c8=c / 256:=⟨_,rfl⟩;obtain ⟨d,hd⟩:∃ d,d=c+c8:=⟨_,rfl⟩;obtain ⟨d16,hd16⟩:∃ d16,d16=d / 65536:=⟨_,rfl⟩;obtain ⟨e,he⟩:∃ e,e=d+d16:=⟨_,rfl⟩;obtain ⟨e32,he32⟩:∃ e32,e32=e / 4294967296:=⟨_,rfl⟩;obtain ⟨f,hf⟩:∃ f,f=e+e32:=⟨_,rfl⟩;obtain ⟨r,hr⟩:∃ r,r=f % 128:=⟨_,rfl⟩;have hs:=swar hx (a:=a) (b:=b) (c:=c) (d:=d) (e:=e) (f:=f) (by rw [ha,ha1,ha2,hx2]) (by rw [hb,hb1,hb2,ha4]) (by rw [hc,hbb,hb16]) (by rw [hd,hc8]) (by rw [he,hd16]) (by rw [hf,he32]);obtain ⟨hs1,hs2,hs3,hs4,hs5,hs6,hs7⟩:=hs;rw [← hs1,← hr];have q1:(x:Int) / 2=(x2:Int):=by omega
 have q2:bits .and .u64 (x2:Int) 6148914691236517205=(a1:Int):=by rw [ha1];exact u64_and_nat x2 6148914691236517205 (by omega) (by omega)
 have q3:bits .and .u64 (x:Int) 6148914691236517205=(a2:Int):=by rw [ha2];exact u64_and_nat x 6148914691236517205 (by omega) (by omega)
 have q4:IntKind.u64.wrap ((a1:Int)+(a2:Int))=(a:Int):=by rw [← Int.natCast_add,← ha];exact u64_wrap_small hs6
 have q5:(a:Int) / 4=(a4:Int):=by omega
 have q6:bits .and .u64 (a4:Int) 3689348814741910323=(b1:Int):=by rw [hb1];exact u64_and_nat a4 3689348814741910323 (by omega) (by omega)
 have q7:bits .and .u64 (a:Int) 3689348814741910323=(b2:Int):=by rw [hb2];exact u64_and_nat a 3689348814741910323 (by omega) (by omega)
 have q8:IntKind.u64.wrap ((b1:Int)+(b2:Int))=(b:Int):=by rw [← Int.natCast_add,← hb];exact u64_wrap_small hs7
 have q9:(b:Int) / 16=(b16:Int):=by omega
 have q10:IntKind.u64.wrap ((b16:Int)+(b:Int))=(bb:Int):=by rw [← Int.natCast_add,← hbb];exact u64_wrap_small (by rw [hbb,hb16];exact hs5)
 have q11:bits .and .u64 (bb:Int) 1085102592571150095=(c:Int):=by rw [hc];exact u64_and_nat bb 1085102592571150095 (by omega) (by omega)
 have q12:(c:Int) / 256=(c8:Int):=by omega
 have q13:IntKind.u64.wrap ((c:Int)+(c8:Int))=(d:Int):=by rw [← Int.natCast_add,← hd];exact u64_wrap_small hs4
 have q14:(d:Int) / 65536=(d16:Int):=by omega
 have q15:IntKind.u64.wrap ((d:Int)+(d16:Int))=(e:Int):=by rw [← Int.natCast_add,← he];exact u64_wrap_small hs3
 have q16:(e:Int) / 4294967296=(e32:Int):=by omega
 have q17:IntKind.u64.wrap ((e:Int)+(e32:Int))=(f:Int):=by rw [← Int.natCast_add,← hf];exact u64_wrap_small (by omega)
 have q18:IntKind.i64.wrap (f:Int)=(f:Int):=by rw [IntKind.wrap_i64];omega
 have q19:bits .and .i64 (f:Int) 127=(r:Int):=by rw [i64_and127,hr];omega
 clear hs1 hs2 hs3 hs4 hs5 hs6 hs7 hx2 ha1 ha2 ha ha4 hb1 hb2 hb hb16 hbb hc hc8 hd hd16 he he32 hf hr hx
 go_enter Tryz.func178,Tryz.ntmps178
 go_wp2_with fail;go_ret;exact ⟨rfl,rfl⟩
theorem Tryz.info_int_:(Tryz.prog.info? 3).map (fun i=>(i.zero,i.size,i.bytes))=some (some (.int .i64 0),1,8):=by kernel_rfl
def cntI (bs:List Bool) (i:Nat):Nat:=(bs.take i).count true
theorem cntI_add (bs:List Bool) (i j:Nat):cntI bs (i+j)=cntI bs i+((bs.drop i).take j).count true:=by
 unfold cntI;rw [List.take_add,List.count_append]
theorem cntI_le (bs:List Bool) (i:Nat):cntI bs i≤bs.length:=by
 unfold cntI;have h1:=(List.take_sublist i bs).count_le true;have h2:=List.count_le_length (a:=true) (l:=bs);omega
theorem cntI_all {bs:List Bool} {i:Nat} (h:bs.length≤i):cntI bs i=bs.count true:=by
 unfold cntI;rw [List.take_of_length_le h]
theorem cntI_mono (bs:List Bool) {i j:Nat} (h:i≤j):cntI bs i≤cntI bs j:=count_take_le bs h
def aheadK (bs:List Bool) (j:Nat):List Int:=(List.range j).map fun i=>((cntI bs (512 * i):Nat):Int)
theorem aheadK_len (bs:List Bool) (j:Nat):(aheadK bs j).length=j:=by simp [aheadK]
theorem aheadK_succ (bs:List Bool) (j:Nat):aheadK bs (j+1)=aheadK bs j ++ [((cntI bs (512 * j):Nat):Int)]:=by simp [aheadK,List.range_succ]
theorem aheadK_get {bs:List Bool} {j i:Nat} (h:i < j):(aheadK bs j)[i]? = some ((cntI bs (512 * i):Nat):Int):=by simp [aheadK,h]
def rowsOf (n:Nat):Nat:=(n+511) / 512+1
theorem word_bits {ws:List Nat} {bs:List Bool} {k x:Nat} (hw:∀ x ∈ ws,x < 2 ^ 64) (hn:num ws=bitN bs) (hx:ws[k]? = some x):x=bitN ((bs.drop (64 * k)).take 64):=by
 have h:=num_get (q:=k) (r:=0) (wd:=64) hw hx (by omega);rw [Nat.add_zero,Nat.pow_zero,Nat.div_one,Nat.mod_eq_of_lt (hw x (List.mem_of_getElem? hx)),hn,bitN_div,bitN_mod] at h;exact h.symm
theorem word_pop {ws:List Nat} {bs:List Bool} {k x:Nat} (hw:∀ x ∈ ws,x < 2 ^ 64) (hn:num ws=bitN bs) (hx:ws[k]? = some x):cntI bs (64 * (k+1))=cntI bs (64 * k)+popN 64 x:=by
 rw [show 64 * (k+1)=64 * k+64 by omega,cntI_add,word_bits hw hn hx,popN_bitN 64 _ (by rw [List.length_take];omega)]

def VecM (w:World) (S:List Nat) (p:Nat) (bs:List Bool) (c:Bool):Prop:=
 ∃ (g:Nat) (ws:List Nat) (A:Option Addr) (na ca:Nat) (av:List Int),
  Blk w p 190 [.slice (some ⟨g,0,none⟩) ws.length ws.length,.slice A na ca,.bool c,.int .i64 (bs.length:Int),.bool true] ∧
  Blk w g 149 (wordsV ws)∧(∀ x ∈ ws,x < 2 ^ 64)∧ws.length=(bs.length+63) / 64∧num ws=bitN bs∧bs.length≤16777216 ∧
  w.ownsRow 0 3 1 (.slice A na ca) na (av.map (.int .i64))∧(c=true→av=aheadK bs (rowsOf bs.length))∧S=p :: g :: ownL (.slice A na ca)
def Grow (w:World) (S S':List Nat):Prop:=∀ g ∈ S',g ∈ S ∨ w.heap.size≤g
theorem Grow.refl (w:World) (S:List Nat):Grow w S S:=fun _ h=>.inl h
theorem Grow.trans {w w':World} {S T U:List Nat} (h:Grow w S T) (h':Grow w' T U) (hs:w.heap.size≤w'.heap.size):Grow w S U:=fun g hg=>by
 rcases h' g hg with h1 | h1
 ·exact h g h1
 ·exact .inr (by omega)
theorem VecM.lt {w:World} {S:List Nat} {p:Nat} {bs:List Bool} {c:Bool} (h:VecM w S p bs c):∀ g ∈ S,g < w.heap.size:=by
 obtain ⟨g,ws,A,na,ca,av,h1,h2,_,_,_,_,h7,_,rfl⟩:=h;intro x hx;simp only [List.mem_cons] at hx
 rcases hx with rfl | rfl | hx
 ·exact h1.lt
 ·exact h2.lt
 ·exact (own_ge h7 (mem_ownL.1 hx)).2
theorem VecM.kp {w w':World} {S T:List Nat} {p:Nat} {bs:List Bool} {c:Bool} (h:VecM w S p bs c) (hk:Kp T w w') (hd:∀ g ∈ S,g ∉ T):VecM w' S p bs c:=by
 obtain ⟨g,ws,A,na,ca,av,h1,h2,h3,h4,h5,h6,h7,h8,rfl⟩:=h;exact ⟨g,ws,A,na,ca,av,h1.kp hk (hd p (by simp)),h2.kp hk (hd g (by simp)),h3,h4,h5,h6,own_kp h7 hk (fun x hx=>hd x (by simp [mem_ownL,hx])),h8,rfl⟩
theorem VecM.kp0 {w w':World} {S:List Nat} {p:Nat} {bs:List Bool} {c:Bool} (h:VecM w S p bs c) (hk:Kp [] w w'):VecM w' S p bs c:=h.kp hk (by simp)
theorem own_zero {w:World} {base:Nat} {e:TypeId} {A:Option Addr} {n c:Nat} {xs:List Value} (h:w.ownsRow base e 1 (.slice A n c) n xs):w.ownsRow base e 1 (.slice A 0 c) 0 []:=by
 rcases own_blk h with ⟨hv,_,_⟩ | ⟨g,cap,rest,hv,hb,hB,h1,h2,h3,h4⟩
 ·injection hv with hv _ hc
  subst hv hc;exact ⟨rfl,.inl ⟨rfl,rfl⟩⟩
 ·injection hv with hv _ hc
  subst hv hc;exact own_of_blk (xs:=[]) (rest:=xs ++ rest) hB hb (Nat.zero_le _) h2 rfl h4
theorem own_blk_some {w:World} {base:Nat} {e:TypeId} {n:Nat} {v:Value} {xs:List Value} (h:w.ownsRow base e 1 v n xs) {b:Nat} (hb:v.ownBlock=some b):∃ l,Blk w b e l:=by
 rcases own_blk h with ⟨rfl,_,_⟩ | ⟨g,cap,rest,rfl,_,hB,_⟩
 ·cases hb
 ·have hb':some g=some b:=hb;injection hb' with hb'
  subst hb';exact ⟨_,hB⟩
theorem ownBlock_len (A:Option Addr) (n m c:Nat):(Value.slice A n c).ownBlock=(Value.slice A m c).ownBlock:=by rcases A with _ | ⟨b,o,s⟩ <;> rfl

theorem count_any (S:List Nat) (p:Nat) (bs:List Bool) (c:Bool) (w:World) (h:VecM w S p bs c) :
  Calls Tryz.prog 176 #[.pointer (some ⟨p,0,none⟩)] w fun e w'=>e=.returned (.tuple #[])∧∃ S',VecM w' S' p bs true∧Kp S w w'∧Grow w S S'∧(c=true→w=w'∧S=S'):=by
 obtain ⟨i0,hi,hz0,hz1,hz2⟩:=info_parts Tryz.info_int_
 cases c with
 | true =>
   have HH:=Lib.hid h
   have c2:w.cell? ⟨p,2,none⟩=some (.bool true):=by
    obtain ⟨g,ws,A,na,ca,av,h1,_⟩:=h;rw [h1.cell];rfl
   clear h
   go_enter Tryz.func176,Tryz.ntmps176
   go_wp2_with fail;refine bodyPost_ret (results_none rfl _ _ _) rfl ?_;exact ⟨rfl,S,HH.out,Kp.refl _ _,Grow.refl _ _,fun _=>⟨rfl,rfl⟩⟩
 | false =>
   obtain ⟨g,ws,A,na,ca,av,h1,h2,h3,h4,h5,h6,h7,_,hS⟩:=h;obtain ⟨m,hm⟩:∃ m,m=ws.length:=⟨_,rfl⟩;obtain ⟨n,hn⟩:∃ n,n=bs.length:=⟨_,rfl⟩;rw [← hm,← hn] at h1 h4;have hpg:p ≠ g:=h1.ne h2 (by decide);have c0:=h1.cell 0;have c1:=h1.cell 1;have c2:=h1.cell 2;have cf1:=h1.free 1;simp only [List.getElem?_cons_zero,List.getElem?_cons_succ] at c0 c1 c2
   have HP0:=Lib.hid (h1.set_ 1 (.slice A 0 ca));have HW0:=Lib.hid (h2.far (p:=⟨p,1,none⟩) (Ne.symm hpg) (.slice A 0 ca))
   have hpA:∀ b,(Value.slice A 0 ca).ownBlock=some b→b ≠ p:=fun b hb e=>by
    rcases own_blk h7 with ⟨hv,_⟩ | ⟨g',cap,rest,hv,_,hB,_⟩
    ·injection hv with hv;subst hv;cases hb
    ·injection hv with hv
     subst hv;have hb':some g'=some b:=hb;injection hb' with hb'
     subst hb' e;exact absurd rfl (hB.ne h1 (by decide))
   have HO0:=Lib.hid (own_kp (own_zero h7) ((Kp.refl [p] w).setCell (p:=⟨p,1,none⟩) (.inl (by simp)) (.slice A 0 ca)) (fun b hb hm=>hpA b hb (by simpa using hm)))
   have HSP:=Lib.hid (show p ∈ S∧g ∈ S∧(∀ b,(Value.slice A 0 ca).ownBlock=some b→b ∈ S) from ⟨by rw [hS];simp,by rw [hS];simp,fun b hb=>by
    rw [ownBlock_len A 0 na ca] at hb;rw [hS]
    exact List.mem_cons_of_mem _ (List.mem_cons_of_mem _ (mem_ownL.2 hb))⟩)
   have HK0:=Lib.hid ((Kp.refl S w).setCell (p:=⟨p,1,none⟩) (.inl HSP.out.1) (.slice A 0 ca));have hca:0≤ca:=Nat.zero_le _;have HLT:=Lib.hid h3;have HM:=Lib.hid hm;have HN:=Lib.hid hn;have HML:=Lib.hid h4;have HNUM:=Lib.hid h5;have hmb:m≤262144:=by omega
   have HNB:=Lib.hid h6;clear h1 h2 h3 h4 h5 h6 h7 hm hn hS hpg hpA
   go_enter Tryz.func176,Tryz.ntmps176
   go_wp2_with fail
   go_loopw [2,22] (fun y x wr=>∃ (k j ca':Nat) (A':Option Addr),x=.int .i64 (k:Int)∧y=.int .i64 ((cntI bs (64 * k):Nat):Int)∧k≤m∧j=(k+7) / 8 ∧
    Hid (Blk wr p 190 [.slice (some ⟨g,0,none⟩) m m,.slice A' j ca',.bool false,.int .i64 (n:Int),.bool true])∧Hid (Blk wr g 149 (wordsV ws)) ∧
    Hid (wr.ownsRow 0 3 1 (.slice A' j ca') j ((aheadK bs j).map (.int .i64)))∧Hid (∀ b,(Value.slice A' j ca').ownBlock=some b→b ∈ S ∨ w.heap.size≤b)∧Hid (Kp S w wr)) (fun _ x _=>m - (intOf x).toNat)
   case atStart=>exact ⟨0,0,ca,A,rfl,by simp [cntI],by omega,by omega,HP0,HW0,HO0,Lib.hid (fun b hb=>.inl (HSP.out.2.2 b hb)),HK0⟩
   case round =>
    clear HP0 HW0 HO0 HK0 c0 c1 c2 cf1;obtain ⟨k,j,ca',A',rfl,rfl,hk,hj,HP,HW,HO,HA,HK⟩:=hrel;have c0:=HP.out.cell 0;have c1:=HP.out.cell 1;simp only [List.getElem?_cons_zero,List.getElem?_cons_succ] at c0 c1
    have hcb:=cntI_le bs (64 * k);rw [← HN.out] at hcb;have HNB2:=Lib.hid (show n≤16777216 by rw [HN.out];exact HNB.out);by_cases hlt:k < m
    ·obtain ⟨x,hx⟩:∃ x,ws[k]? = some x:=⟨_,List.getElem?_eq_getElem (by rw [← HM.out];exact hlt)⟩;have cx:wr.cell? ⟨g,k,none⟩=some (.int .u64 (x:Int)):=by rw [HW.out.cell];exact wordsV_get hx
     have HXB:=Lib.hid (HLT.out x (List.mem_of_getElem? hx));have hpop:=word_pop HLT.out HNUM.out hx;have hcb2:=cntI_le bs (64 * (k+1));rw [← HN.out] at hcb2;obtain ⟨q,hq⟩:∃ q,q=cntI bs (64 * k):=⟨_,rfl⟩;obtain ⟨q2,hq2⟩:∃ q2,q2=cntI bs (64 * (k+1)):=⟨_,rfl⟩;obtain ⟨pp,hpp⟩:∃ pp,pp=popN 64 x:=⟨_,rfl⟩;rw [← hq,← hq2,← hpp] at hpop;rw [← hq2] at hcb2;rw [← hq];have hwq:IntKind.i64.wrap ((q:Int)+(pp:Int))=(q2:Int):=by rw [IntKind.wrap_i64];have:=HNB2.out;omega
     have hq9:q≤16777216:=by have:=HNB2.out;omega
     have HQ:=Lib.hid hq;have HQ2:=Lib.hid hq2;have HPP:=Lib.hid hpp;obtain ⟨r,hr⟩:∃ r,r=k % 8:=⟨_,rfl⟩;have hmod:(k:Int).tmod 8=(r:Int):=by rw [Int.tmod_eq_emod_of_nonneg (by omega)];omega
     have hwr:IntKind.i64.wrap (r:Int)=(r:Int):=by rw [IntKind.wrap_i64];omega
     clear hx hpop hcb2 hq hq2 hpp hcb;by_cases hr0:r=0
     ·subst hr0;have hj8:j=k / 8:=by omega
      have HJK:=Lib.hid (show 64 * k=512 * j by omega);have HJ2:=Lib.hid (show j+1=(k+1+7) / 8 by omega);have hjb:j≤40000:=by omega
      clear hj hr hj8;have hmod0:(k:Int).tmod 8=0:=hmod;clear hmod hwr;have HRX:=Lib.hid (show Rd (wr.alloc (.cells #[.int .i64 (q:Int)] 3)) (wr.heap.size+1) (some ⟨wr.heap.size,0,none⟩) [.int .i64 (q:Int)] from Rd.new wr #[.int .i64 (q:Int)] 3 (0,0))
      go_wp2_with (at_builtin;go_loud (refine wpList_append_rd rfl (.tmp 34) (.tmp 36) 81 rfl 0 3 i0 (.int .i64 0) 1 8 Tryz.underlying81 hi hz0 hz1 hz2 rfl (by decide) (.slice A' j ca') j _ rfl (own_kp0 HO.out ((Kp.refl [] _).alloc _)) _ _ 1 1 [.int .i64 (q:Int)] rfl rfl HRX.out (by simp [Value.oneCell']) (by unfold maxLen;omega) (by omega) (Nat.zero_le _) ?_);intro v2 w2 hown2 hgrow2 hat2
                   obtain ⟨A2,c2',rfl,_⟩:=own_form hown2;have hkg:Kp (ownL (.slice A' j ca')) wr w2:=((Kp.refl _ wr).alloc (.cells #[.int .i64 (q:Int)] 3)).grown hgrow2 (fun b hb=>.inl (mem_ownL.2 hb));have hpn:∀ b,(Value.slice A' j ca').ownBlock=some b→∃ l,Blk wr b 3 l:=fun b hb=>own_blk_some HO.out hb
                   have HP2:=Lib.hid (HP.out.kp hkg (fun hm=>by obtain ⟨l,hl⟩:=hpn p (mem_ownL.1 hm);exact absurd rfl (hl.ne HP.out (by decide))));have HW2:=Lib.hid (HW.out.kp hkg (fun hm=>by obtain ⟨l,hl⟩:=hpn g (mem_ownL.1 hm);exact absurd rfl (hl.ne HW.out (by decide))));have HK2:=Lib.hid ((HK.out.alloc (.cells #[.int .i64 (q:Int)] 3)).grown hgrow2 (fun b hb=>HA.out b hb))
                   have HA2:=Lib.hid (show ∀ b,(Value.slice A2 (j+1) c2').ownBlock=some b→b ∈ S ∨ w.heap.size≤b from fun b hb=>by
                    rcases hat2 with e | e
                    ·exact HA.out b (by rw [← e];exact hb)
                    ·rw [e] at hb;injection hb with hb
                     subst hb;have:=HK.out.size
                     simp
                     exact .inr (by omega))
                   have HO2:=Lib.hid hown2;have cf2:=HP2.out.free 1;have cp2:w2.cell? ⟨p,1,none⟩=some (.slice A' j ca'):=by rw [HP2.out.cell];rfl
                   clear hown2 hgrow2 hat2 hkg hpn)
      refine (ones_any x _ HXB.out).mono ?_;rintro e w3 ⟨rfl,rfl⟩;rw [← HPP.out];have HP3:=Lib.hid (HP2.out.set_ 1 (.slice A2 (j+1) c2'));have HW3:=Lib.hid (HW2.out.far (p:=⟨p,1,none⟩) (fun e=>by subst e;exact absurd rfl (HW2.out.ne HP2.out (by decide))) (.slice A2 (j+1) c2'))
      have HO3:=Lib.hid (own_kp HO2.out ((Kp.refl [p] w2).setCell (p:=⟨p,1,none⟩) (.inl (by simp)) (.slice A2 (j+1) c2')) (fun b hb hm=>by
       simp only [List.mem_singleton] at hm
       subst hm;obtain ⟨l,hl⟩:=own_blk_some HO2.out hb
       exact absurd rfl (hl.ne HP2.out (by decide))))
      have HK3:=Lib.hid (HK2.out.setCell (p:=⟨p,1,none⟩) (.inl HSP.out.1) (.slice A2 (j+1) c2'));clear cf2 cp2;go_wp2_with fail;exact ⟨⟨k+1,j+1,c2',A2,by go_num,by rw [HQ2.out],by omega,HJ2.out,HP3,HW3,Lib.hid (by rw [aheadK_succ,List.map_append,← HJK.out,← HQ.out];exact HO3.out),HA2,HK3⟩,by simp [intOf];omega⟩
     ·have HJ2:=Lib.hid (show j=(k+1+7) / 8 by omega);go_wp2_with fail;refine (ones_any x wr HXB.out).mono ?_;rintro e w3 ⟨rfl,rfl⟩;rw [← HPP.out];go_wp2_with fail;exact ⟨⟨k+1,j,ca',A',by go_num,by rw [HQ2.out],by omega,HJ2.out,HP,HW,HO,HA,HK⟩,by simp [intOf];omega⟩
    ·obtain rfl:m=k:=by omega
     obtain ⟨q,hq⟩:∃ q,q=cntI bs (64 * m):=⟨_,rfl⟩;rw [← hq] at hcb ⊢;have HJ:=Lib.hid hj;have hjb:j≤40000:=by omega
     have HQ:=Lib.hid (show q=cntI bs (512 * j) by
      rw [hq,cntI_all (by have:=HML.out;have:=HN.out;omega),cntI_all (by have:=HML.out;have:=HN.out;omega)])
     have HJR:=Lib.hid (show j+1=rowsOf bs.length by unfold rowsOf;have:=HML.out;have:=HN.out;omega);clear hj hq hcb;have HRX:=Lib.hid (show Rd (wr.alloc (.cells #[.int .i64 (q:Int)] 3)) (wr.heap.size+1) (some ⟨wr.heap.size,0,none⟩) [.int .i64 (q:Int)] from Rd.new wr #[.int .i64 (q:Int)] 3 (0,0))
     go_wp2_with (at_builtin;go_loud (refine wpList_append_rd rfl (.tmp 49) (.tmp 51) 81 rfl 0 3 i0 (.int .i64 0) 1 8 Tryz.underlying81 hi hz0 hz1 hz2 rfl (by decide) (.slice A' j ca') j _ rfl (own_kp0 HO.out ((Kp.refl [] _).alloc _)) _ _ 1 1 [.int .i64 (q:Int)] rfl rfl HRX.out (by simp [Value.oneCell']) (by unfold maxLen;omega) (by omega) (Nat.zero_le _) ?_);intro v2 w2 hown2 hgrow2 hat2
                  obtain ⟨A2,c2',rfl,_⟩:=own_form hown2;have hkg:Kp (ownL (.slice A' j ca')) wr w2:=((Kp.refl _ wr).alloc (.cells #[.int .i64 (q:Int)] 3)).grown hgrow2 (fun b hb=>.inl (mem_ownL.2 hb));have hpn:∀ b,(Value.slice A' j ca').ownBlock=some b→∃ l,Blk wr b 3 l:=fun b hb=>own_blk_some HO.out hb
                  have HP2:=Lib.hid (HP.out.kp hkg (fun hm=>by obtain ⟨l,hl⟩:=hpn p (mem_ownL.1 hm);exact absurd rfl (hl.ne HP.out (by decide))));have HW2:=Lib.hid (HW.out.kp hkg (fun hm=>by obtain ⟨l,hl⟩:=hpn g (mem_ownL.1 hm);exact absurd rfl (hl.ne HW.out (by decide))));have HK2:=Lib.hid ((HK.out.alloc (.cells #[.int .i64 (q:Int)] 3)).grown hgrow2 (fun b hb=>HA.out b hb))
                  have HA2:=Lib.hid (show ∀ b,(Value.slice A2 (j+1) c2').ownBlock=some b→b ∈ S ∨ w.heap.size≤b from fun b hb=>by
                   rcases hat2 with e | e
                   ·exact HA.out b (by rw [← e];exact hb)
                   ·rw [e] at hb;injection hb with hb
                    subst hb;have:=HK.out.size
                    simp
                    exact .inr (by omega))
                  have HO2:=Lib.hid hown2;have cf2:=HP2.out.free 1;have cp2:w2.cell? ⟨p,1,none⟩=some (.slice A' j ca'):=by rw [HP2.out.cell];rfl
                  have cf3:=HP2.out.free 2;have cp3:w2.cell? ⟨p,2,none⟩=some (.bool false):=by rw [HP2.out.cell];rfl
                  clear hown2 hgrow2 hat2 hkg hpn)
     go_end0
     have hp3:=(HP2.out.set_ 1 (.slice A2 (j+1) c2')).set_ 2 (.bool true)
     have hpw:∀ i:Nat,g ≠ (⟨p,i,none⟩:Addr).block:=fun i e=>by
      have e':g=p:=e;subst e';exact absurd rfl (HW2.out.ne HP2.out (by decide))
     have hw3:=(HW2.out.far (hpw 1) (.slice A2 (j+1) c2')).far (hpw 2) (.bool true);have hkk:Kp [p] w2 ((w2.setCell ⟨p,1,none⟩ (.slice A2 (j+1) c2')).setCell ⟨p,2,none⟩ (.bool true)):=((Kp.refl [p] w2).setCell (.inl (by simp)) _).setCell (.inl (by simp)) _
     have ho3:=own_kp HO2.out hkk (fun b hb hm=>by
      simp only [List.mem_singleton] at hm
      subst hm;obtain ⟨l,hl⟩:=own_blk_some HO2.out hb
      exact absurd rfl (hl.ne HP2.out (by decide)))
     refine ⟨rfl,p :: g :: ownL (.slice A2 (j+1) c2'),?_,HK2.out.trans (hkk.mono (fun x hx=>by simp only [List.mem_singleton] at hx;subst hx;exact HSP.out.1)),?_,fun h=>by cases h⟩
     ·refine ⟨g,ws,A2,j+1,c2',aheadK bs (j+1),by rw [← HM.out,← HN.out];exact hp3,hw3,HLT.out,by rw [← HM.out,← HN.out];exact HML.out,HNUM.out,HNB.out,by rw [aheadK_succ,List.map_append,← HQ.out];exact ho3,fun _=>by rw [HJR.out],rfl⟩
     ·intro x hx;simp only [List.mem_cons] at hx
      rcases hx with rfl | rfl | hx
      ·exact .inl HSP.out.1
      ·exact .inl HSP.out.2.1
      ·exact HA2.out x (mem_ownL.1 hx)
def wordsOf (n:Nat):Nat:=(n+63) / 64
def wordL (bs:List Bool) (k:Nat):List Bool:=(bs.drop (64 * k)).take 64
theorem wordL_len (bs:List Bool) (k:Nat):(wordL bs k).length≤64:=by unfold wordL;rw [List.length_take];omega
theorem bitN_wordL_lt (bs:List Bool) (k:Nat):bitN (wordL bs k) < 2 ^ 64:=Nat.lt_of_lt_of_le (bitN_lt _) (Nat.pow_le_pow_right (by omega) (wordL_len bs k))
theorem wordL_pop (bs:List Bool) (k:Nat):cntI bs (64 * (k+1))=cntI bs (64 * k)+popN 64 (bitN (wordL bs k)):=by
 rw [show 64 * (k+1)=64 * k+64 by omega,cntI_add,popN_bitN 64 _ (wordL_len bs k)];rfl
theorem wordL_low (bs:List Bool) (k r:Nat) (hr:r≤64):cntI bs (64 * k+r)=cntI bs (64 * k)+popN 64 (bitN (wordL bs k) % 2 ^ r):=by
 rw [cntI_add,bitN_mod,popN_bitN 64 _ (by rw [List.length_take];omega)];unfold wordL;rw [List.take_take,Nat.min_eq_left hr]
theorem VecM.words {w:World} {S:List Nat} {p:Nat} {bs:List Bool} {c:Bool} (h:VecM w S p bs c) :
  ∃ g,w.cell? ⟨p,0,none⟩=some (.slice (some ⟨g,0,none⟩) (wordsOf bs.length) (wordsOf bs.length))∧(∀ k,k < wordsOf bs.length→w.cell? ⟨g,k,none⟩=some (.int .u64 ((bitN (wordL bs k):Nat):Int))):=by
 obtain ⟨g,ws,A,na,ca,av,h1,h2,h3,h4,h5,_⟩:=h;refine ⟨g,by rw [h1.cell];unfold wordsOf;rw [← h4];rfl,fun k hk=>?_⟩;obtain ⟨x,hx⟩:∃ x,ws[k]? = some x:=⟨_,List.getElem?_eq_getElem (by rw [h4];exact hk)⟩;rw [h2.cell,wordsV_get hx,word_bits h3 h5 hx];rfl
theorem VecM.tail {w:World} {S:List Nat} {p:Nat} {bs:List Bool} {c:Bool} (h:VecM w S p bs c):w.cell? ⟨p,2,none⟩=some (.bool c)∧w.cell? ⟨p,3,none⟩=some (.int .i64 (bs.length:Int))∧w.cell? ⟨p,4,none⟩=some (.bool true)∧bs.length≤16777216:=by
 obtain ⟨g,ws,A,na,ca,av,h1,_,_,_,_,h6,_⟩:=h;exact ⟨by rw [h1.cell];rfl,by rw [h1.cell];rfl,by rw [h1.cell];rfl,h6⟩
theorem VecM.ahead {w:World} {S:List Nat} {p:Nat} {bs:List Bool} (h:VecM w S p bs true) :
  ∃ ga ca,w.cell? ⟨p,1,none⟩=some (.slice (some ⟨ga,0,none⟩) (rowsOf bs.length) ca)∧∀ i,i < rowsOf bs.length→w.cell? ⟨ga,i,none⟩=some (.int .i64 ((cntI bs (512 * i):Nat):Int)):=by
 obtain ⟨g,ws,A,na,ca,av,h1,_,_,_,_,_,h7,h8,_⟩:=h;have hav:=h8 rfl;subst hav
 have hna:na=rowsOf bs.length:=by
  have:=h7.1;rw [List.length_map,aheadK_len,Nat.mul_one] at this;exact this.symm
 subst hna;obtain ⟨ga,rfl,_,_⟩:=own_blk h7 |>.elim (fun h=>absurd h.2.1 (by unfold rowsOf;omega)) (fun ⟨g',cap,rest,hv,_⟩=>⟨g',by injection hv,trivial,trivial⟩:_→∃ ga,A=some ⟨ga,0,none⟩∧True∧True);refine ⟨ga,ca,by rw [h1.cell];rfl,fun i hi=>?_⟩;obtain ⟨ad,had,_,hc⟩:=(own_rd h7).at_ (i:=i) (u:=.int .i64 ((cntI bs (512 * i):Nat):Int)) (by rw [List.getElem?_map,aheadK_get hi];rfl);injection had with had
 subst had
 rwa [addr_lit_add,Nat.zero_add] at hc

set_option maxHeartbeats 2000000 in
theorem within_any (S:List Nat) (p k:Nat) (bs:List Bool) (c:Bool) (w:World) (h:VecM w S p bs c) (hk:k < wordsOf bs.length) :
  Calls Tryz.prog 183 #[.pointer (some ⟨p,0,none⟩),.int .i64 k] w fun e w'=>e=.returned (.int .i64 ((cntI bs (64 * k) - cntI bs (512 * (k / 8)):Nat):Int))∧w=w':=by
 obtain ⟨g,c0,hcw⟩:=h.words;obtain ⟨_,_,_,hnb⟩:=h.tail;obtain ⟨m,hm⟩:∃ m,m=wordsOf bs.length:=⟨_,rfl⟩;rw [← hm] at c0 hcw hk;have hmb:m≤262144:=by unfold wordsOf at hm;omega
 have HCW:=Lib.hid hcw;have HNB:=Lib.hid hnb;clear hcw h hnb hm;obtain ⟨q,hq⟩:∃ q,q=k / 8:=⟨_,rfl⟩;obtain ⟨a,ha⟩:∃ a,a=q * 8:=⟨_,rfl⟩;rw [← hq,show 512 * q=64 * a by omega];have hdiv:(k:Int).tdiv 8=(q:Int):=by rw [Int.tdiv_eq_ediv_of_nonneg (by omega)];omega
 have hwq:IntKind.i64.wrap (q:Int)=(q:Int):=by rw [IntKind.wrap_i64];omega
 have hwa:IntKind.i64.wrap ((q:Int) * 8)=(a:Int):=by rw [IntKind.wrap_i64];omega
 have hak:a≤k:=by omega
 have hkm:k≤m:=by omega
 have hma:m ≠ a:=by omega
 obtain ⟨d,hd⟩:∃ d,k - a=d:=⟨_,rfl⟩;have HD:=Lib.hid (show k=a+d by omega);have hd9:d≤8:=by omega
 clear hq ha;have HRES:=Lib.hid (show cntI bs (64 * k) - cntI bs (64 * a)=cntI bs (64 * (a+d)) - cntI bs (64 * a) by rw [HD.out])
 go_enter Tryz.func183,Tryz.ntmps183
 go_wp2_with fail
 go_loopw [4,17] (fun y x wr=>∃ i:Nat,x=.int .i64 (i:Int)∧y=.int .i64 ((cntI bs (64 * (a+i)) - cntI bs (64 * a):Nat):Int)∧i≤d∧w=wr) (fun _ x _=>d - (intOf x).toNat)
 case atStart=>exact ⟨0,rfl,by rw [Nat.add_zero,Nat.sub_self];rfl,by omega,rfl⟩
 case round =>
  obtain ⟨i,rfl,rfl,hi,rfl⟩:=hrel;obtain ⟨s,hs⟩:∃ s,s=cntI bs (64 * (a+i)) - cntI bs (64 * a):=⟨_,rfl⟩;rw [← hs];have HS:=Lib.hid hs;have hs9:s≤16777216:=by have:=cntI_le bs (64 * (a+i));have:=HNB.out;omega
  clear hs;by_cases hlt:i < d
  ·have cx:=HCW.out (a+i) (by have:=HD.out;omega);have hpop:=wordL_pop bs (a+i);obtain ⟨x,hx⟩:∃ x,x=bitN (wordL bs (a+i)):=⟨_,rfl⟩;have HXB:=Lib.hid (show x < 2 ^ 64 by rw [hx];exact bitN_wordL_lt _ _);rw [← hx] at cx hpop;obtain ⟨pp,hpp⟩:∃ pp,pp=popN 64 x:=⟨_,rfl⟩;rw [← hpp] at hpop;obtain ⟨s2,hs2⟩:∃ s2,s2=cntI bs (64 * (a+(i+1))) - cntI bs (64 * a):=⟨_,rfl⟩
   have hss:s2=s+pp:=by
    have h1:=cntI_mono bs (show 64 * a≤64 * (a+i) by omega);have h2:=HS.out;rw [show a+(i+1)=a+i+1 by omega] at hs2;omega
   have hs29:s2≤16777216:=by have:=cntI_le bs (64 * (a+(i+1)));have:=HNB.out;omega
   have hwp:IntKind.i64.wrap ((s:Int)+(pp:Int))=(s2:Int):=by rw [IntKind.wrap_i64];omega
   have HS2:=Lib.hid hs2;have HPP:=Lib.hid hpp;clear hx hpop hpp hs2 hss;go_wp2_with fail;refine (ones_any x w HXB.out).mono ?_;rintro e w3 ⟨rfl,rfl⟩;rw [← HPP.out];go_wp2_with fail;exact ⟨⟨i+1,by go_num,by rw [HS2.out],by omega,trivial⟩,by simp [intOf];omega⟩
  ·obtain rfl:d=i:=by omega
   go_wp2_with fail;go_ret;exact ⟨by rw [HRES.out,← HS.out];rfl,rfl⟩

theorem low_mask (x r:Nat):x &&& (2 ^ r - 1)=x % 2 ^ r:=Nat.and_two_pow_sub_one_eq_mod x r

theorem below_any (S:List Nat) (p i:Nat) (bs:List Bool) (c:Bool) (w:World) (h:VecM w S p bs c) (hi:i≤bs.length) :
  Calls Tryz.prog 181 #[.pointer (some ⟨p,0,none⟩),.int .i64 i] w fun e w'=>e=.returned (.int .i64 ((cntI bs i:Nat):Int))∧∃ S',VecM w' S' p bs true∧Kp S w w'∧Grow w S S'∧(c=true→Kp [] w w'∧S=S'):=by
 have HH:=Lib.hid h;clear h;have HIL:=Lib.hid hi;clear hi;obtain ⟨N,hN⟩:∃ N,N=cntI bs i:=⟨_,rfl⟩;rw [← hN];have HNC:=Lib.hid hN;clear hN
 go_enter Tryz.func181,Tryz.ntmps181
 go_wp2_with fail;refine (count_any S p bs c w HH.out).mono ?_;rintro e w1 ⟨rfl,S',hv1,hk1,hg1,hc1⟩;have HV:=Lib.hid hv1;have HK:=Lib.hid hk1;have HG:=Lib.hid hg1;have HC:=Lib.hid (show c=true→Kp [] w w1∧S=S' from fun hc=>by obtain ⟨rfl,rfl⟩:=hc1 hc;exact ⟨Kp.refl _ _,rfl⟩);clear hv1 hk1 hg1 hc1;obtain ⟨g,c0,hcw⟩:=HV.out.words;obtain ⟨ga,ca,c1,hca⟩:=HV.out.ahead;obtain ⟨_,_,_,hnb⟩:=HV.out.tail;obtain ⟨n,hn⟩:∃ n,n=bs.length:=⟨_,rfl⟩;have HNN:=Lib.hid hn;have hin:i≤n:=by rw [hn];exact HIL.out
 rw [← hn] at c0 hcw c1 hca hnb;obtain ⟨m,hm⟩:∃ m,m=wordsOf n:=⟨_,rfl⟩;obtain ⟨R,hR⟩:∃ R,R=rowsOf n:=⟨_,rfl⟩;rw [← hm] at c0 hcw;rw [← hR] at c1 hca;have hmb:m≤262144:=by unfold wordsOf at hm;omega
 have hRb:1≤R∧R≤40000:=by unfold rowsOf at hR;omega
 have HCW:=Lib.hid hcw;have HCA:=Lib.hid hca;have HM:=Lib.hid hm;have HR:=Lib.hid hR;clear hcw hca hn hm hR;obtain ⟨q,hq⟩:∃ q,q=i / 64:=⟨_,rfl⟩;obtain ⟨r,hr⟩:∃ r,r=i % 64:=⟨_,rfl⟩;have hdiv:(i:Int).tdiv 64=(q:Int):=by rw [Int.tdiv_eq_ediv_of_nonneg (by omega)];omega
 have hmod:(i:Int).tmod 64=(r:Int):=by rw [Int.tmod_eq_emod_of_nonneg (by omega)];omega
 have hwq:IntKind.i64.wrap (q:Int)=(q:Int):=by rw [IntKind.wrap_i64];omega
 have hwr:IntKind.i64.wrap (r:Int)=(r:Int):=by rw [IntKind.wrap_i64];omega
 have hqm:q≤m:=by have:=HM.out;unfold wordsOf at this;omega
 by_cases hqe:q=m
 ·have hin2:i=n:=by have:=HM.out;unfold wordsOf at this;omega
  obtain ⟨R1,hR1⟩:∃ R1,R=R1+1:=⟨R - 1,by omega⟩;have cl:=HCA.out R1 (by omega)
  have hNl:cntI bs (512 * R1)=N:=by
   have h1:=HR.out;have h2:=HNN.out;unfold rowsOf at h1;rw [HNC.out,cntI_all (by omega),cntI_all (by omega)]
  rw [hNl] at cl;have hwR:IntKind.i64.wrap ((R:Int) - 1)=(R1:Int):=by rw [IntKind.wrap_i64];omega
  have hRR:(R1:Int) < (R:Int):=by omega
  subst hqe;clear hNl hR1 hin2 hq hr;go_wp2_with fail
  go_quiet (fail)
  go_wp2_with fail;go_ret;exact ⟨rfl,S',HV.out.kp0 (Kp.of_drewN _ _),HK.out.drewN _,HG.out,fun hc=>⟨(HC.out hc).1.drewN _,(HC.out hc).2⟩⟩
 ·have hqb:q < m:=by omega
  have hqe1:(q == m)=false:=by simpa using hqe
  have hqe2:((q:Int) == (m:Int))=false:=by simp;omega
  have cx:=HCW.out q hqb;obtain ⟨x,hx⟩:∃ x,x=bitN (wordL bs q):=⟨_,rfl⟩;have hxb:x < 2 ^ 64:=by rw [hx];exact bitN_wordL_lt _ _
  rw [← hx] at cx;obtain ⟨P,hP⟩:∃ P,P=2 ^ r:=⟨_,rfl⟩;have hr64:r < 64:=by omega
  have hPb:1≤P∧P≤9223372036854775808:=by
   rw [hP];exact ⟨Nat.two_pow_pos _,Nat.le_trans (Nat.pow_le_pow_right (by omega) (show r≤63 by omega)) (by decide)⟩
  have hsh:IntKind.u64.wrap (2 ^ r)=(P:Int):=by
   rw [show ((2:Int) ^ r)=(P:Int) by rw [hP];simp];exact u64_wrap_small (by omega)
  have hsh2:IntKind.u64.wrap (2 ^ min r 64)=(P:Int):=by rw [show min r 64=r by omega];exact hsh
  have hwP:IntKind.u64.wrap ((P:Int) - 1)=((P - 1:Nat):Int):=by
   rw [show (P:Int) - 1=((P - 1:Nat):Int) by omega];exact u64_wrap_small (by omega)
  obtain ⟨P1,hP1⟩:∃ P1,P - 1=P1:=⟨_,rfl⟩;rw [hP1] at hwP;obtain ⟨lo,hlo⟩:∃ lo,lo=x % 2 ^ r:=⟨_,rfl⟩
  have hand:bits .and .u64 (x:Int) (P1:Int)=(lo:Int):=by
   rw [u64_and_nat x P1 (by omega) (by omega),← hP1,hP,low_mask,← hlo]
  have hlob:lo < 2 ^ 64:=by rw [hlo];exact Nat.lt_of_le_of_lt (Nat.mod_le _ _) hxb
  obtain ⟨q8,hq8⟩:∃ q8,q8=q / 8:=⟨_,rfl⟩;have hdiv8:(q:Int).tdiv 8=(q8:Int):=by rw [Int.tdiv_eq_ediv_of_nonneg (by omega)];omega
  have hwq8:IntKind.i64.wrap (q8:Int)=(q8:Int):=by rw [IntKind.wrap_i64];omega
  have hq8R:q8 < R:=by have:=HM.out;have:=HR.out;unfold wordsOf rowsOf at *;omega
  have ca8:=HCA.out q8 hq8R;obtain ⟨N8,hN8⟩:∃ N8,N8=cntI bs (512 * q8):=⟨_,rfl⟩;rw [← hN8] at ca8;obtain ⟨D8,hD8⟩:∃ D8,D8=cntI bs (64 * q) - cntI bs (512 * q8):=⟨_,rfl⟩;obtain ⟨L8,hL8⟩:∃ L8,L8=popN 64 lo:=⟨_,rfl⟩
  have hsum:N=N8+D8+L8:=by
   have h1:=wordL_low bs q r (by omega);have h2:=cntI_mono bs (show 512 * q8≤64 * q by omega);rw [← hx,← hlo,← hL8,show 64 * q+r=i by omega,← HNC.out] at h1;omega
  have hNb:N≤n:=by rw [HNC.out,HNN.out];exact cntI_le bs i
  have hwa:IntKind.i64.wrap ((N8:Int)+(D8:Int))=((N8+D8:Nat):Int):=by rw [IntKind.wrap_i64];omega
  have hwb:IntKind.i64.wrap (((N8+D8:Nat):Int)+(L8:Int))=(N:Int):=by rw [IntKind.wrap_i64];omega
  have hwb':IntKind.i64.wrap ((N8:Int)+(D8:Int)+(L8:Int))=(N:Int):=by rw [IntKind.wrap_i64];omega
  have HLO:=Lib.hid hlob;have HL8:=Lib.hid hL8
  have HWI:=Lib.hid (show ∀ w':World,Kp [] w1 w'→Calls Tryz.prog 183 #[.pointer (some ⟨p,0,none⟩),.int .i64 q] w' fun e w''=>e=.returned (.int .i64 (D8:Int))∧w'=w'' from fun w' hd=>by
   have:=within_any S' p q bs true w' (HV.out.kp0 hd) (by rw [← HNN.out,← HM.out];exact hqb);rw [← hq8,← hD8] at this
   exact this)
  have HON:=Lib.hid (show ∀ w':World,Calls Tryz.prog 178 #[.int .u64 lo] w' fun e w''=>e=.returned (.int .i64 (L8:Int))∧w'=w'' from fun w'=>by
   have:=ones_any lo w' hlob;rw [← hL8] at this
   exact this)
  have hq8i:(q8:Int) < (R:Int):=by omega
  have hqmi:(q:Int) < (m:Int):=by omega
  clear hqe hx hxb hP hPb hP1 hlo hlob hq8 hN8 hD8 hL8 hsum hNb hq hr;go_wp2_with fail
  go_quiet (fail)
  go_upto_region 5 with fail
  refine wp_region_facts (by kernel_rfl) 58 [4,41,42,43,44,45,46,47,48,49,50,51,52,53,54,55,56,57] [[],[41],[42],[43],[],[45],[46],[44,47],[48],[],[],[51],[50,52],[49,53],[],[55],[54,56],[57]] (by kernel_rfl) (by kernel_rfl) rfl (factOf [(41,.eq (.pointer (some ⟨p,0,none⟩))),(42,.eq (.pointer (some ⟨p,0,none⟩))),(43,.eq (.pointer (some ⟨p,1,none⟩))),(44,.eq (.slice (some ⟨ga,0,none⟩) R ca)),(45,.eq (.int .i64 (i:Int))),(46,.eq (.int .i64 (q:Int))),(47,.eq (.int .i64 (q8:Int))),(48,.eq (.pointer (some ⟨ga,q8,none⟩))),(49,.eq (.int .i64 (N8:Int))),(50,.eq (.pointer (some ⟨p,0,none⟩))),(51,.eq (.int .i64 (i:Int))),(52,.eq (.int .i64 (q:Int))),(53,.eq (.int .i64 (D8:Int))),(54,.eq (.int .i64 ((N8+D8:Nat):Int))),(55,.eq (.int .u64 (lo:Int))),(56,.eq (.int .i64 (L8:Int))),(57,.eq (.int .i64 (N:Int))),(4,.eq (.int .i64 (N:Int)))]) (factOf_stable _) _ (fun x=>by simp only [fillL,Nat.reduceAdd,Nat.reduceEqDiff,↓reduceIte];rfl) ?_ ?_
  ·refine ⟨?_,?_,?_,?_,?_,?_,?_,?_,?_,?_,?_,?_,?_,?_,?_,?_,?_,?_,trivial⟩
   ·intro fx w' fa hk hd ev;have e0:fa.tmps[0]?.getD undef=.pointer (some ⟨p,0,none⟩):=ev.old 0 rfl;refine stepF_un rfl (fun K hK=>?_);exact stepF_val _ hK (run_move rfl e0 _) rfl
   ·intro fx w' fa hk hd ev;have e41:=(ev.new 41 rfl).trans (show fx 41=.pointer (some ⟨p,0,none⟩) from hd.1);refine stepF_un rfl (fun K hK=>?_);go_simp;exact hK _ _ rfl (Kp.refl _ _)
   ·intro fx w' fa hk hd ev;have e42:=(ev.new 42 rfl).trans (show fx 42=.pointer (some ⟨p,0,none⟩) from hd.1);refine stepF_un rfl (fun K hK=>?_);go_simp;exact hK _ _ rfl (Kp.refl _ _)
   ·intro fx w' fa hk hd ev;have e43:=(ev.new 43 rfl).trans (show fx 43=.pointer (some ⟨p,1,none⟩) from hd.1);refine stepF_un rfl (fun K hK=>?_);have cx:=hk.cell (p:=⟨p,1,none⟩) c1 (by simp);go_simp;exact hK _ _ rfl (Kp.refl _ _)
   ·intro fx w' fa hk hd ev;have e1:fa.tmps[1]?.getD undef=.int .i64 (i:Int):=ev.old 1 rfl;refine stepF_un rfl (fun K hK=>?_);exact stepF_val _ hK (run_move rfl e1 _) rfl
   ·intro fx w' fa hk hd ev;have e45:=(ev.new 45 rfl).trans (show fx 45=.int .i64 (i:Int) from hd.1);refine stepF_un rfl (fun K hK=>?_);go_simp;exact hK _ _ rfl (Kp.refl _ _)
   ·intro fx w' fa hk hd ev;have e46:=(ev.new 46 rfl).trans (show fx 46=.int .i64 (q:Int) from hd.1);refine stepF_un rfl (fun K hK=>?_);go_simp;exact hK _ _ rfl (Kp.refl _ _)
   ·intro fx w' fa hk hd ev;have e44:=(ev.new 44 rfl).trans (show fx 44=.slice (some ⟨ga,0,none⟩) R ca from hd.1);have e47:=(ev.new 47 rfl).trans (show fx 47=.int .i64 (q8:Int) from hd.2.1);refine stepF_un rfl (fun K hK=>?_);have hz0:(0:Int)≤(q8:Int):=by omega
    go_simp;exact hK _ _ rfl (Kp.refl _ _)
   ·intro fx w' fa hk hd ev;have e48:=(ev.new 48 rfl).trans (show fx 48=.pointer (some ⟨ga,q8,none⟩) from hd.1);refine stepF_un rfl (fun K hK=>?_);have cx:=hk.cell (p:=⟨ga,q8,none⟩) ca8 (by simp);go_simp;exact hK _ _ rfl (Kp.refl _ _)
   ·intro fx w' fa hk hd ev;have e0:fa.tmps[0]?.getD undef=.pointer (some ⟨p,0,none⟩):=ev.old 0 rfl;refine stepF_un rfl (fun K hK=>?_);exact stepF_val _ hK (run_move rfl e0 _) rfl
   ·intro fx w' fa hk hd ev;have e1:fa.tmps[1]?.getD undef=.int .i64 (i:Int):=ev.old 1 rfl;refine stepF_un rfl (fun K hK=>?_);exact stepF_val _ hK (run_move rfl e1 _) rfl
   ·intro fx w' fa hk hd ev;have e51:=(ev.new 51 rfl).trans (show fx 51=.int .i64 (i:Int) from hd.1);refine stepF_un rfl (fun K hK=>?_);go_simp;exact hK _ _ rfl (Kp.refl _ _)
   ·intro fx w' fa hk hd ev;have e50:=(ev.new 50 rfl).trans (show fx 50=.pointer (some ⟨p,0,none⟩) from hd.1);have e52:=(ev.new 52 rfl).trans (show fx 52=.int .i64 (q:Int) from hd.2.1);refine stepF_un rfl (fun K hK=>?_);go_simp;refine (HWI.out _ ((Kp.of_drewN w1 _).trans hk)).mono ?_;rintro e w1 ⟨rfl,rfl⟩;exact hK _ _ rfl (Kp.refl _ _)
   ·intro fx w' fa hk hd ev;have e49:=(ev.new 49 rfl).trans (show fx 49=.int .i64 (N8:Int) from hd.1);have e53:=(ev.new 53 rfl).trans (show fx 53=.int .i64 (D8:Int) from hd.2.1);refine stepF_un rfl (fun K hK=>?_);go_simp;exact hK _ _ rfl (Kp.refl _ _)
   ·intro fx w' fa hk hd ev;have e5:fa.tmps[5]?.getD undef=.int .u64 (lo:Int):=ev.old 5 rfl;refine stepF_un rfl (fun K hK=>?_);exact stepF_val _ hK (run_move rfl e5 _) rfl
   ·intro fx w' fa hk hd ev;have e55:=(ev.new 55 rfl).trans (show fx 55=.int .u64 (lo:Int) from hd.1);refine stepF_un rfl (fun K hK=>?_);go_simp;refine (HON.out _).mono ?_;rintro e w1 ⟨rfl,rfl⟩;exact hK _ _ rfl (Kp.refl _ _)
   ·intro fx w' fa hk hd ev;have e54:=(ev.new 54 rfl).trans (show fx 54=.int .i64 ((N8+D8:Nat):Int) from hd.1);have e56:=(ev.new 56 rfl).trans (show fx 56=.int .i64 (L8:Int) from hd.2.1);refine stepF_un rfl (fun K hK=>?_);go_simp;exact hK _ _ rfl (Kp.refl _ _)
   ·intro fx w' fa hk hd ev;have e57:=(ev.new 57 rfl).trans (show fx 57=.int .i64 (N:Int) from hd.1);refine stepF_un rfl (fun K hK=>?_);exact stepF_val _ hK (run_assign rfl e57 _) rfl
  ·intro fx w' hk hd;have h4:fx 4=.int .i64 (N:Int):=hd.1;have h41:fx 41=.pointer (some ⟨p,0,none⟩):=hd.2.1;have h42:fx 42=.pointer (some ⟨p,0,none⟩):=hd.2.2.1;have h43:fx 43=.pointer (some ⟨p,1,none⟩):=hd.2.2.2.1;have h44:fx 44=.slice (some ⟨ga,0,none⟩) R ca:=hd.2.2.2.2.1;have h45:fx 45=.int .i64 (i:Int):=hd.2.2.2.2.2.1;have h46:fx 46=.int .i64 (q:Int):=hd.2.2.2.2.2.2.1;have h47:fx 47=.int .i64 (q8:Int):=hd.2.2.2.2.2.2.2.1;have h48:fx 48=.pointer (some ⟨ga,q8,none⟩):=hd.2.2.2.2.2.2.2.2.1;have h49:fx 49=.int .i64 (N8:Int):=hd.2.2.2.2.2.2.2.2.2.1;have h50:fx 50=.pointer (some ⟨p,0,none⟩):=hd.2.2.2.2.2.2.2.2.2.2.1;have h51:fx 51=.int .i64 (i:Int):=hd.2.2.2.2.2.2.2.2.2.2.2.1;have h52:fx 52=.int .i64 (q:Int):=hd.2.2.2.2.2.2.2.2.2.2.2.2.1;have h53:fx 53=.int .i64 (D8:Int):=hd.2.2.2.2.2.2.2.2.2.2.2.2.2.1;have h54:fx 54=.int .i64 ((N8+D8:Nat):Int):=hd.2.2.2.2.2.2.2.2.2.2.2.2.2.2.1;have h55:fx 55=.int .u64 (lo:Int):=hd.2.2.2.2.2.2.2.2.2.2.2.2.2.2.2.1;have h56:fx 56=.int .i64 (L8:Int):=hd.2.2.2.2.2.2.2.2.2.2.2.2.2.2.2.2.1;have h57:fx 57=.int .i64 (N:Int):=hd.2.2.2.2.2.2.2.2.2.2.2.2.2.2.2.2.2.1;have HK5:=Lib.hid ((Kp.of_drewN w1 _).trans hk);rw [h4];clear hk hd;go_wp2_with fail;go_ret;exact ⟨rfl,S',HV.out.kp0 HK5.out,HK.out.trans (HK5.out.mono (by simp)),HG.out,fun hc=>⟨(HC.out hc).1.trans HK5.out,(HC.out hc).2⟩⟩
def dbTab:List Int:=[0,1,56,2,57,49,28,3,61,58,42,50,38,29,17,4,62,47,59,36,45,43,51,22,53,39,33,30,24,18,12,5,63,55,48,27,60,41,37,16,46,35,44,21,52,32,23,11,54,26,40,15,34,20,31,10,25,14,19,9,13,8,7,6]
def Tab64 (w:World):Prop:=∀ (i:Nat) (v:Int),dbTab[i]? = some v→w.cell? ⟨0,i,none⟩=some (.int .u8 v)
theorem Tab64.kp {w w':World} {S:List Nat} (h:Tab64 w) (hk:Kp S w w') (hS:0 ∉ S):Tab64 w':=fun i v hv=>hk.cell (h i v hv) hS
theorem Tab64.kp0 {w w':World} (h:Tab64 w) (hk:Kp [] w w'):Tab64 w':=h.kp hk (by simp)
theorem db_at:∀ c:Nat,c < 64→dbTab[2 ^ c * 285870213051353865 % 18446744073709551616 / 288230376151711744]? = some (c:Int):=by decide +kernel
theorem ft_app:∀ {l:List Bool} (n:Nat),0 < l.count true→ft (l ++ List.replicate n false)=ft l
 | [],n,h=>by simp at h
 | true :: l,n,_=>rfl
 | false :: l,n,h=>by
   have:=ft_app (l:=l) n (by simpa [List.count_cons] using h)
   show ft (l ++ List.replicate n false)+1=ft l+1
   rw [this]
theorem bitN_pad (l:List Bool) (n:Nat):bitN (l ++ List.replicate n false)=bitN l:=by rw [bitN_app,bitN_zeros,Nat.mul_zero,Nat.add_zero]

set_option maxRecDepth 10000 in
set_option maxHeartbeats 1000000 in
theorem tz_any (l:List Bool) (w:World) (hl:l.length≤64) (hc:0 < l.count true) (ht:Tab64 w) :
  Calls Tryz.prog 179 #[.int .u64 (bitN l:Nat)] w fun e w'=>e=.returned (.int .i64 (ft l:Nat))∧w=w':=by
 obtain ⟨x,hx⟩:∃ x,x=bitN l:=⟨_,rfl⟩;obtain ⟨c,hcc⟩:∃ c,c=ft l:=⟨_,rfl⟩;have hxp:0 < x:=by rw [hx];exact bitN_pos hc
 have hxb:x < 2 ^ 64:=by rw [hx];exact Nat.lt_of_lt_of_le (bitN_lt l) (Nat.pow_le_pow_right (by omega) hl)
 have hc64:c < 64:=by rw [hcc];exact Nat.lt_of_lt_of_le (ft_lt hc) hl
 have hneg:x &&& (2 ^ 64 - x)=2 ^ c:=by
  have hcp:0 < (l ++ List.replicate (64 - l.length) false).count true:=by rw [List.count_append];omega
  have:=and_neg hcp;rw [bitN_pad,ft_app _ hc,List.length_append,List.length_replicate,show l.length+(64 - l.length)=64 by omega,← hx,← hcc] at this;exact this
 rw [← hx,← hcc];obtain ⟨y,hy⟩:∃ y,y=2 ^ 64 - x:=⟨_,rfl⟩;rw [← hy] at hneg
 have q1:IntKind.u64.wrap (-(x:Int))=(y:Int):=by
  have:IntKind.u64.wrap (-(x:Int))=(-(x:Int)) % 18446744073709551616:=by simp [IntKind.wrap,IntKind.signed,IntKind.bits]
  rw [this];omega
 obtain ⟨P,hP⟩:∃ P,P=2 ^ c:=⟨_,rfl⟩;have hPb:P≤9223372036854775808:=by rw [hP];exact Nat.le_trans (Nat.pow_le_pow_right (by omega) (show c≤63 by omega)) (by decide)
 have q2:bits .and .u64 (x:Int) (y:Int)=(P:Int):=by rw [u64_and_nat x y (by omega) (by omega),hneg,hP]
 obtain ⟨M,hM⟩:∃ M,M=P * 285870213051353865 % 18446744073709551616:=⟨_,rfl⟩
 have q3:IntKind.u64.wrap ((P:Int) * 285870213051353865)=(M:Int):=by
  have:IntKind.u64.wrap ((P:Int) * 285870213051353865)=((P:Int) * 285870213051353865) % 18446744073709551616:=by simp [IntKind.wrap,IntKind.signed,IntKind.bits]
  rw [this];omega
 obtain ⟨I,hI⟩:∃ I,I=M / 288230376151711744:=⟨_,rfl⟩;have q4:(M:Int) / 288230376151711744=(I:Int):=by omega
 have hI64:I < 64:=by omega
 have ci:=ht I (c:Int) (by rw [hI,hM,hP];exact db_at c hc64);have q5:IntKind.i64.wrap (c:Int)=(c:Int):=by rw [IntKind.wrap_i64];omega
 have hI1:(I:Int) < 64:=by omega
 have hI0:(0:Int)≤(I:Int):=by omega
 have hx0:((x:Int) == 0)=false:=by simp;omega
 clear hx hcc hc hl hneg hy hP hM hI hxb hPb
 go_enter Tryz.func179,Tryz.ntmps179
 go_wp2_with fail;go_ret;exact ⟨rfl,rfl⟩

set_option maxHeartbeats 2000000 in
theorem all_any (S:List Nat) (p:Nat) (bs:List Bool) (c:Bool) (w:World) (h:VecM w S p bs c) :
  Calls Tryz.prog 163 #[.pointer (some ⟨p,0,none⟩)] w fun e w'=>e=.returned (.int .i64 ((bs.count true:Nat):Int))∧∃ S',VecM w' S' p bs true∧Kp S w w'∧Grow w S S'∧(c=true→Kp [] w w'∧S=S'):=by
 have HH:=Lib.hid h;clear h;obtain ⟨N,hN⟩:∃ N,N=bs.count true:=⟨_,rfl⟩;rw [← hN];have HNC:=Lib.hid hN;clear hN
 go_enter Tryz.func163,Tryz.ntmps163
 go_wp2_with fail;refine (count_any S p bs c w HH.out).mono ?_;rintro e w1 ⟨rfl,S',hv1,hk1,hg1,hc1⟩;have HV:=Lib.hid hv1;have HK:=Lib.hid hk1;have HG:=Lib.hid hg1;have HC:=Lib.hid (show c=true→Kp [] w w1∧S=S' from fun hc=>by obtain ⟨rfl,rfl⟩:=hc1 hc;exact ⟨Kp.refl _ _,rfl⟩);clear hv1 hk1 hg1 hc1;obtain ⟨ga,ca,c1,hca⟩:=HV.out.ahead;obtain ⟨_,_,_,hnb⟩:=HV.out.tail;obtain ⟨R,hR⟩:∃ R,R=rowsOf bs.length:=⟨_,rfl⟩;rw [← hR] at c1 hca;have hRb:1≤R∧R≤40000:=by unfold rowsOf at hR;omega
 obtain ⟨R1,hR1⟩:∃ R1,R=R1+1:=⟨R - 1,by omega⟩;have cl:=hca R1 (by omega)
 have hNl:cntI bs (512 * R1)=N:=by
  unfold rowsOf at hR;rw [HNC.out,cntI_all (by omega)]
 rw [hNl] at cl;have hwR:IntKind.i64.wrap ((R:Int) - 1)=(R1:Int):=by rw [IntKind.wrap_i64];omega
 have hRR:(R1:Int) < (R:Int):=by omega
 clear hNl hR1 hR hca hnb;go_wp2_with fail
 go_quiet (fail)
 go_wp2_with fail;go_ret;exact ⟨rfl,S',HV.out.kp0 (Kp.of_drewN _ _),HK.out.drewN _,HG.out,fun hc=>⟨(HC.out hc).1.drewN _,(HC.out hc).2⟩⟩

theorem bfindc_any (S:List Nat) (p k r b1 b2:Nat) (bs:List Bool) (w:World) (h:VecM w S p bs true) (hr:r < rowsOf bs.length) (h1:w.cell? ⟨b1,0,none⟩=some (.pointer (some ⟨p,0,none⟩))) (h2:w.cell? ⟨b2,0,none⟩=some (.int .i64 k)) :
  Calls Tryz.prog 177 #[.int .i64 r,.pointer (some ⟨b1,0,none⟩),.pointer (some ⟨b2,0,none⟩)] w fun e w'=>e=.returned (.bool (decide (k < cntI bs (512 * r))))∧Dr w w':=by
 obtain ⟨ga,ca,c1,hca⟩:=h.ahead;have cr:=hca r hr;obtain ⟨R,hR⟩:∃ R,R=rowsOf bs.length:=⟨_,rfl⟩;rw [← hR] at c1 hr;obtain ⟨N,hN⟩:∃ N,N=cntI bs (512 * r):=⟨_,rfl⟩;rw [← hN] at cr ⊢;have hri:(r:Int) < (R:Int):=by omega
 obtain ⟨q,hq⟩:∃ q,decide ((k:Int) < (N:Int))=q:=⟨_,rfl⟩;have HQ:=Lib.hid (show decide (k < N)=q by rw [← hq];simp);clear h hca hN hR
 go_enter Tryz.func177,Tryz.ntmps177
 go_wp2_with fail
 go_quiet (fail)
 go_wp2_with fail;go_ret;exact ⟨by rw [HQ.out];rfl,(Dr.refl w).drewN _⟩
end Go.Proofs.YtanacapkfllbnaaGreatDoor
