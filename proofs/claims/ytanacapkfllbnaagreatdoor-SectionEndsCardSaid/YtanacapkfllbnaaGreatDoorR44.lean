/-
  LAYER 12 (front): Read.
  CONDITIONS: a code and bits in memory, at most 30000 bits.
-/
import Derived.Test.YtanacapkfllbnaaGreatDoorR43
import Derived.Test.YtanacapkfllbnaaGreatDoorR12
import Derived.Test.YtanacapkfllbnaaGreatDoorR19
set_option maxRecDepth 100000
set_option maxHeartbeats 4000000
namespace Go.Proofs.YtanacapkfllbnaaGreatDoor
open Go.RowKit

theorem Tryz.info_str17:(Tryz.prog.info? 9).map (fun i=>(i.zero,i.size,i.bytes))=some (some (.string ⟨#[]⟩),1,16):=by kernel_rfl
def readT (T:CT) (L:List Bool) (n:Nat):Option (List ByteArray):=(readK T L n).bind fun x=>if riseT x.1=true∧frontB T x.1=L then some x.1 else none
theorem bytes_bits {a b:List Bool} {m:Nat} (hl:a.length=b.length) (hm:m=(a.length+7) / 8):(bytesN (bitN a) m=bytesN (bitN b) m) ↔ a=b:=by
 constructor
 ·intro h
  have e:bitN a=bitN b:=by
   apply Nat.eq_of_testBit_eq
   intro i;by_cases hi:i / 8 < m
   ·have h1:=bytesN_get (bitN a) hi;have h2:=bytesN_get (bitN b) hi;rw [h,h2] at h1;injection h1 with h1
    have h3:bitN b / 2 ^ (8 * (i / 8)) % 256=bitN a / 2 ^ (8 * (i / 8)) % 256:=by omega
    have h4:∀ N:Nat,N.testBit i=(N / 2 ^ (8 * (i / 8)) % 2 ^ 8).testBit (i % 8):=fun N=>by
     rw [Nat.testBit_mod_two_pow,Nat.testBit_div_two_pow,show i % 8+8 * (i / 8)=i from by omega];have:i % 8 < 8:=Nat.mod_lt _ (by decide)
     simp [this]
    rw [h4,h4 (bitN b)];rw [show (2:Nat) ^ 8=256 from rfl,h3]
   ·have h1:bitN a < 2 ^ i:=Nat.lt_of_lt_of_le (bitN_lt a) (Nat.pow_le_pow_right (by decide) (by omega));have h2:bitN b < 2 ^ i:=Nat.lt_of_lt_of_le (bitN_lt b) (Nat.pow_le_pow_right (by decide) (by omega));rw [Nat.testBit_lt_two_pow h1,Nat.testBit_lt_two_pow h2]
  rw [← bitsOf_bitN a,← bitsOf_bitN b,e,hl]
 ·rintro rfl;rfl
structure ReadB (T:CT) (L:List Bool) (k:Nat) (ts:List ByteArray) (a:Nat):Prop where
 len:ts.length=k
 le:a≤L.length
 kb:k≤30000
 sz:∀ s ∈ ts,s.size≤30000
 en:∀ s ∈ ts,∃ r,encT T s=some r
 fb:∀ j,(frontB T (ts.take j)).length≤9000000
theorem readB_small {T:CT} {sg:List Nat} {ls:List Int} (h:CodeT T sg ls) {L:List Bool} (hL:L.length≤30000) (n:Nat):∀ k ts a,k≤n→readK T L k=some (ts,a)→ReadB T L k ts a:=fun k ts a _ hr=>by
 have h1:=readK_ok h (by omega) hr;have h2:=h1.le;have h3:=h1.ka;exact ⟨h1.len,h2,by omega,fun s hs=>by have:=h1.sz s hs;omega,h1.en,fun j=>by have:=h1.fb j;omega⟩
def FreadP (p q n:Nat) (S:List Nat) (T:CT) (L:List Bool) (w:World) (e:Ending) (w':World):Prop:=
 (∃ S' c',VecM w' S' q L c'∧Grow w S S'∧Kp S w w') ∧
 ((readT T L n=none∧e=.returned (.tuple #[.pointer none,.int .i64 4])) ∨
  (∃ ts Sf f lo hi,readT T L n=some ts∧(∀ s ∈ ts,(∃ r,encT T s=some r)∧s.size≤1000000)∧ts.length=n∧n≤30000∧e=.returned (.tuple #[.pointer (some ⟨f,0,none⟩),.int .i64 0])∧FrM w' lo hi Sf f p T ts∧w.heap.size≤lo∧hi≤w'.heap.size))
theorem fread_any (lo hi p q n N:Nat) (S:List Nat) (cc:Bool) (T:CT) (sg:List Nat) (ls:List Int) (L:List Bool) (w:World) (h:CodeM w lo hi p T sg ls) (hv:VecM w S q L cc) (hN:L.length=N) (hall:∀ k ts a,k≤n→readK T L k=some (ts,a)→ReadB T L k ts a) (hn:n≤1000000000) (hhi:hi≤w.heap.size) (hS:∀ g ∈ S,g < lo ∨ hi≤g) (ht:Tab64 w) (h0:0 ∉ S) :
  Calls Tryz.prog 102 #[.pointer (some ⟨p,0,none⟩),.int .i64 (n:Int),.pointer (some ⟨q,0,none⟩)] w (FreadP p q n S T L w):=by
 obtain ⟨i0,hi0,hz0,hz1,hz2⟩:=info_parts Tryz.info_str17;have HTL:=Lib.hid ht.lt;have HSL:=Lib.hid (show ∀ g ∈ S,g < w.heap.size from hv.lt);have H:=Lib.hid h;clear h;have HV:=Lib.hid hv;clear hv;have HN:=Lib.hid hN;clear hN;have HHI:=Lib.hid hhi;clear hhi;have HS:=Lib.hid hS;clear hS;have HT:=Lib.hid ht;clear ht;have H0:=Lib.hid h0;clear h0;have HALL:=Lib.hid hall;clear hall
 go_enter Tryz.func102,Tryz.ntmps102
 go_wp2_with fail;refine (rnew_yes S q N 0 L cc w HV.out HN.out (by omega)).mono ?_;rintro e w1 ⟨rp,rfl,hr1,hv1,hrp,hrpS,hk1⟩;have HR:=Lib.hid hr1;have HVV:=Lib.hid hv1;have HRP:=Lib.hid hrp;have HRPS:=Lib.hid hrpS;have HK:=Lib.hid hk1;have HC1:=Lib.hid (H.out.kp hk1 HS.out);have HT1:=Lib.hid (HT.out.kp hk1 H0.out);clear hr1 hv1 hrp hrpS hk1;go_wp2_with fail;refine (csigns_any lo hi p T sg ls w1 HC1.out).mono ?_;rintro e w2 ⟨As,ns,cs,hns,rfl,hown2,hk2⟩;have hn1:1≤ns:=by rw [hns];exact H.out.1.2.2.2.2.1
 have hnz:((ns:Int) == 0)=false:=by simp;omega
 replace HK:=Lib.hid (HK.out.trans (hk2.mono (by simp)));replace HR:=Lib.hid (HR.out.kp hk2 (by simp));replace HVV:=Lib.hid (HVV.out.kp0 hk2);replace HC1:=Lib.hid (HC1.out.kp0 hk2);replace HT1:=Lib.hid (HT1.out.kp0 hk2);clear hk2;clear hns hown2;have hn0:decide ((n:Int) < 0)=false:=by simp
 go_wp2_with fail;obtain ⟨wB,hwB⟩:∃ wB,wB=w2.alloc (.cells #[.pointer (some ⟨p,0,none⟩),.pointer (some ⟨q,0,none⟩)] 114):=⟨_,rfl⟩;obtain ⟨sb,hsb⟩:∃ sb,sb=w2.heap.size:=⟨_,rfl⟩;rw [← hwB,← hsb];have hkB:Kp [] w2 wB:=by rw [hwB];exact (Kp.refl [] w2).alloc _
 have HBB:=Lib.hid (show Blk wB sb 114 [.pointer (some ⟨p,0,none⟩),.pointer (some ⟨q,0,none⟩)] from by rw [hwB,hsb];exact Blk.new w2 114 [.pointer (some ⟨p,0,none⟩),.pointer (some ⟨q,0,none⟩)]);have HRB:=Lib.hid (show rp < sb from by rw [hsb];exact Blk.lt HR.out);replace HK:=Lib.hid (HK.out.trans (hkB.mono (by simp)));replace HR:=Lib.hid (HR.out.kp0 hkB);replace HVV:=Lib.hid (HVV.out.kp0 hkB);have HSB:=Lib.hid (show w.heap.size≤sb from Nat.le_trans HRP.out (Nat.le_of_lt HRB.out));have HBS:=Lib.hid (show wB.heap.size=sb+1 from by rw [hwB,hsb];simp);clear hwB hsb hkB HC1 HT1;go_wp2_with fail
 go_loopw [11,12,39] (fun v y x wr=>∃ (k a c:Nat) (A:Option Addr) (st:ByteArray) (ts:List ByteArray) (S':List Nat) (c':Bool),v=.slice A k c∧y=.string st∧x=.int .i64 (k:Int)∧k≤n∧st.size≤1000000∧Hid (readK T L k=some (ts,a))∧Hid (txt st=(ts.map txt).getLastD [])∧Hid (wr.ownsRow (sb+1) 9 1 (.slice A k c) k (ts.map .string))∧Hid (∀ g ∈ ownL (.slice A k c),g ∉ S')∧Hid (RdM wr rp q a false)∧Hid (VecM wr S' q L c')∧Hid (Grow wB S S')∧Hid (Blk wr sb 114 [.pointer (some ⟨p,0,none⟩),.pointer (some ⟨q,0,none⟩)])∧Hid (Kp S w wr)) (fun _ _ x _=>n - (intOf x).toNat)
 case atStart=>exact ⟨0,0,0,none,⟨#[]⟩,[],S,false,rfl,rfl,rfl,by omega,by decide,Lib.hid rfl,Lib.hid rfl,Lib.hid (World.ownsRow_nil _ _ _ 1),Lib.hid (by intro g hg;cases hg),HR,HVV,Lib.hid (Grow.refl _ _),HBB,HK⟩
 case round =>
  clear HR HVV HBB HK;obtain ⟨k,a,c,A,st,ts,S',c',rfl,rfl,rfl,hk,hst,HRK,HTX,HO,HOS,HR,HVV,HG,HBB,HK⟩:=hrel;have HOK:=Lib.hid (HALL.out _ _ _ hk HRK.out);have HCR:=Lib.hid (H.out.kp HK.out HS.out);have HTR:=Lib.hid (HT.out.kp HK.out H0.out);have hkb:k≤30000:=HOK.out.kb;have haN:a≤N:=by have:=HOK.out.le;rw [HN.out] at this;exact this
  have HGS:=Lib.hid (show ∀ g ∈ S',g ∈ S ∨ sb+1≤g from fun g hg=>by have h1:=HG.out g hg;rwa [HBS.out] at h1)
  have HNS:=Lib.hid (show rp ∉ S'∧sb ∉ S'∧0 ∉ S' from by
   have h1:=HRB.out;have h2:=HSB.out;have h3:=HTL.out;refine ⟨fun hm=>?_,fun hm=>?_,fun hm=>?_⟩
   ·rcases HGS.out _ hm with h | h
    ·exact HRPS.out h
    ·omega
   ·rcases HGS.out _ hm with h | h
    ·have:=HSL.out _ h;omega
    ·omega
   ·rcases HGS.out _ hm with h | h
    ·exact H0.out h
    ·omega)
  have HSH:=Lib.hid (show ∀ g ∈ S',g < lo ∨ hi≤g from fun g hg=>by
   rcases HGS.out _ hg with h | h
   ·exact HS.out g h
   ·have:=HSB.out;have:=HHI.out;omega)
  have HGW:=Lib.hid (show Grow w S S' from fun g hg=>by
   rcases HGS.out _ hg with h | h
   ·exact .inl h
   ·have:=HSB.out;exact .inr (by omega))
  by_cases hlt:k < n
  ·have hltI:(k:Int) < (n:Int):=by omega
   obtain ⟨rm,hrm⟩:∃ rm,rm=k % 8:=⟨_,rfl⟩;obtain ⟨fb,hfb⟩:∃ fb,fb=decide (k % 8=0):=⟨_,rfl⟩;have htm:Int.tmod (k:Int) 8=(rm:Int):=by rw [Int.tmod_eq_emod_of_nonneg (by omega)];omega
   have hrz:((rm:Int) == 0)=fb:=by
    rw [hfb,hrm];by_cases h:k % 8=0
    ·rw [h];rfl
    ·rw [decide_eq_false h];have:((k % 8:Nat):Int) ≠ 0:=by omega
     simpa using this
   have HFB:=Lib.hid hfb;have hcf:wr.cell? ⟨sb,0,none⟩=some (.pointer (some ⟨p,0,none⟩)):=by rw [HBB.out.cell];rfl
   have HCF:=Lib.hid hcf;clear hrm hfb hcf;go_wp2_with fail;refine (next_any lo hi sb p rp q a N S' false c' fb L T sg ls st wr HCF.out HCR.out HR.out HVV.out HN.out haN HNS.out.1 (Nat.le_trans HHI.out HRP.out) HSH.out HNS.out.2.1 (by have:=HRB.out;omega) hst HTR.out HNS.out.2.2 (by have:=HTL.out;have:=HRP.out;omega)).mono ?_;intro e w5 hp;have HSP:=Lib.hid (fun h=>next_spec H.out.1 (L:=L) (a:=a) (ahead:=txt st) (first:=fb) HOK.out.le h);have HRN:=Lib.hid (show readK T L (k+1)=if (nextF T L a false (txt st) fb).1.2=0 then some (ts ++ [strN (nextF T L a false (txt st) fb).1.1],(nextF T L a false (txt st) fb).2.1) else none from by rw [readK,HRK.out,HTX.out,HFB.out]);obtain ⟨F,hF⟩:∃ F,F=nextF T L a false (txt st) fb:=⟨_,rfl⟩;rw [← hF] at hp HSP HRN;clear hF;obtain ⟨⟨ob,er⟩,a5,bad5⟩:=F;unfold NextP at hp
   dsimp only at hp HSP HRN
   obtain ⟨rfl,hr5,S5,c5,hv5,hk5,hg5⟩:=hp;obtain ⟨s5,hs5⟩:∃ s5,s5=strN ob:=⟨_,rfl⟩;rw [← hs5] at HRN ⊢
   have HK5:=Lib.hid (show Kp S w w5 from HK.out.trans' hk5 (fun x hx=>by
    rcases List.mem_cons.1 hx with e | hx
    ·exact .inr (by rw [e];exact HRP.out)
    ·exact HGW.out x hx))
   have HV5:=Lib.hid hv5
   have HG5:=Lib.hid (show Grow wB S S5 from fun x hx=>by
    rcases hg5 x hx with h | h
    ·exact HG.out x h
    ·exact .inr (by rw [HBS.out];exact Nat.le_trans HBB.out.lt h))
   by_cases her:er=0
   ·subst her;obtain ⟨k',rest,v',h1,h2,h3,h4,h5,h6,h7,h8,h9⟩:=HSP.out rfl;subst h8;have HR5:=Lib.hid hr5;have HRN5:=Lib.hid (show readK T L (k+1)=some (ts ++ [s5],a5) from by rw [HRN.out,if_pos rfl]);have HOK5:=Lib.hid (HALL.out _ _ _ (by omega) HRN5.out)
    have hs5z:s5.size≤1000000:=by
     have h1:=HOK5.out.sz s5 (by simp);omega
    have HTX5:=Lib.hid (show txt s5=((ts ++ [s5]).map txt).getLastD [] from by simp)
    have hxr:∀ x ∈ ownL (.slice A k c),x ∉ rp :: S':=fun x hx hm=>by
     have h1:=(own_ge HO.out (mem_ownL.1 hx)).1;have h2:=HRB.out;rcases List.mem_cons.1 hm with e | hm
     ·omega
     ·exact HOS.out x hx hm
    have HO5:=Lib.hid (own_kp HO.out hk5 (fun g hg=>hxr g (mem_ownL.2 hg)))
    have HOS5:=Lib.hid (show ∀ g ∈ ownL (.slice A k c),g ∉ S5 from fun g hg hm=>by
     rcases hg5 g hm with h | h
     ·exact HOS.out g hg h
     ·have:=(own_ge HO.out (mem_ownL.1 hg)).2
      omega)
    have HBB5:=Lib.hid (HBB.out.kp hk5 (fun hm=>by
     have h2:=HRB.out;rcases List.mem_cons.1 hm with e | hm
     ·omega
     ·exact HNS.out.2.1 hm))
    have HSZ5:=Lib.hid (show sb+1≤w5.heap.size from HBB5.out.lt);clear hxr h1 h2 h3 h4 h5 h6 h7 h9 hr5 hv5 hk5 hg5 hs5 HRN HSP htm hrz HR HVV HG HBB HK HO HOS HCF HCR HTR HGW HGS HNS HSH
    go_wp2_with (at_builtin;go_loud (refine wpList_append_rd rfl (.tmp 54) (.tmp 56) 22 rfl (sb+1) 9 i0 (.string ⟨#[]⟩) 1 16 Tryz.underlying22 hi0 hz0 hz1 hz2 rfl (by decide) (.slice A k c) (k) _ rfl (own_kp0 HO5.out ((Kp.refl [] _).alloc _)) _ _ 1 1 [.string s5] rfl rfl (Rd.new w5 #[.string s5] 9 (0,0)) (by intro u hu;simp at hu;subst hu;rfl) (by unfold maxLen;omega) (by omega) (by have:=HSZ5.out;simp;omega) ?_);intro v3 w3 hown3 hgrow3 hat3;obtain ⟨hka3,hga3⟩:=app_facts hgrow3 hat3;obtain ⟨A3',c3',rfl,_⟩:=own_form hown3)
    have HO3:=Lib.hid (show w3.ownsRow (sb+1) 9 1 (.slice A3' (k+1) c3') (k+1) ((ts ++ [s5]).map .string) from by rw [List.map_append];exact hown3)
    have HOS3:=Lib.hid (show ∀ g ∈ ownL (.slice A3' (k+1) c3'),g ∉ S5 from fun g hg hm=>by
     rcases hga3 g hg with h | h
     ·exact HOS5.out g h hm
     ·have:=HV5.out.lt g hm;omega)
    have HR3:=Lib.hid (HR5.out.kp hka3 (fun hm=>by have h1:=(own_ge HO5.out (mem_ownL.1 hm)).1;have h2:=HRB.out;omega));have HV3:=Lib.hid (HV5.out.kp hka3 (fun g hg hm=>HOS5.out g hm hg));have HB3:=Lib.hid (HBB5.out.kp hka3 (fun hm=>by have h1:=(own_ge HO5.out (mem_ownL.1 hm)).1;omega));have HK3:=Lib.hid (HK5.out.trans' hka3 (fun x hx=>.inr (by have h1:=(own_ge HO5.out (mem_ownL.1 hx)).1;have h2:=HSB.out;omega)));exact ⟨⟨k+1,a5,c3',A3',s5,ts ++ [s5],S5,c5,rfl,rfl,by go_num,by omega,hs5z,HRN5,HTX5,HO3,HOS3,HR3,HV3,HG5,HB3,HK3⟩,by simp [intOf];omega⟩
   ·have hez:(er == 0)=false:=by simpa using her
    have HNO:=Lib.hid (show readT T L n=none from by
     have h1:readK T L (k+1)=none:=by rw [HRN.out,if_neg her]
     unfold readT;rw [readK_mono h1 (by omega)]
     rfl)
    have HGW5:=Lib.hid (show Grow w S S5 from fun x hx=>by
     rcases hg5 x hx with h | h
     ·exact HGW.out x h
     ·exact .inr (Nat.le_trans HK.out.size h))
    clear hs5 her hr5 hv5 hk5 hg5 HRN HSP htm hrz;go_wp2_with fail;go_ret2;exact ⟨⟨S5,c5,HV5.out,HGW5.out,HK5.out⟩,.inl ⟨HNO.out,rfl⟩⟩
  ·obtain rfl:k=n:=by omega
   have HRD:=Lib.hid (own_rd HO.out);have HLN:=Lib.hid HOK.out.len;have HSZ:=Lib.hid (show ∀ s ∈ ts,s.size≤30000 from HOK.out.sz);have HFL:=Lib.hid (show ∀ j,(frontB T (ts.take j)).length≤9000000 from HOK.out.fb);go_wp2_with fail;refine (fof_gen lo hi p k c _ A ts T sg ls wr HCR.out HRD.out HLN.out hkb HSZ.out HFL.out (Nat.le_trans HHI.out HK.out.size) (Nat.le_refl _)).mono ?_;rintro e w6 ⟨hk6,⟨hr6,rfl⟩ | ⟨_,⟨s,hs,hno⟩,_⟩ | ⟨hr6,hen6,Sf,f,rfl,hfr6⟩⟩
   ·have HNO:=Lib.hid (show readT T L k=none from by unfold readT;rw [HRK.out];simp [hr6]);have HK6:=Lib.hid (HK.out.trans (hk6.mono (by simp)));have HV6:=Lib.hid (HVV.out.kp0 hk6);clear hr6 hk6;go_wp2_with fail;go_ret2;exact ⟨⟨S',c',HV6.out,HGW.out,HK6.out⟩,.inl ⟨HNO.out,rfl⟩⟩
   ·obtain ⟨r,hr⟩:=HOK.out.en s hs;rw [hr] at hno
    cases hno
   ·have HR6:=Lib.hid hr6;have HEN:=Lib.hid hen6;have HF6:=Lib.hid hfr6;have HK6:=Lib.hid (HK.out.trans (hk6.mono (by simp)));have HV6:=Lib.hid (HVV.out.kp0 hk6);have HWS:=Lib.hid HK.out.size;obtain ⟨qf,Af,cf,nf,mf,ccf,hnf,hmf,hf0,hf1,hf2,hf3,hvf,hmcf,hrf⟩:=hfr6.cells;obtain ⟨M,hM⟩:∃ M,(frontB T ts).length=M:=⟨_,rfl⟩;have HM:=Lib.hid hM;have HVF:=Lib.hid hvf;have hMb:M≤16777216:=by rw [← hM];exact hvf.tail.2.2.2
    clear hr6 hen6 hfr6 hk6 hnf hmf hf0 hf2 hf3 hvf hmcf hrf hM HK HVV HR HBB HO HOS;go_wp2_with fail;refine (vlen_any Sf qf M (frontB T ts) ccf w6 HVF.out HM.out).mono ?_;rintro e w7 ⟨rfl,rfl⟩;go_wp2_with fail;refine (vlen_any S' q N L c' w6 HV6.out HN.out).mono ?_;rintro e w7 ⟨rfl,rfl⟩;by_cases hMN:M=N
    ·subst hMN;go_wp2_with fail;refine (vbytes_any Sf qf (frontB T ts) ccf w6 HVF.out).mono ?_;rintro e w7 ⟨A7,m7,c7,hm7,rfl,hown7,hk7⟩;have HM7:=Lib.hid hm7;have HB7:=Lib.hid (own_rd hown7);replace HK6:=Lib.hid (HK6.out.trans (hk7.mono (by simp)));replace HV6:=Lib.hid (HV6.out.kp0 hk7);have HF7:=Lib.hid (HF6.out.kp0 hk7);have HHS:=Lib.hid hk7.size;clear hm7 hown7 hk7 hf1;go_wp2_with fail;refine (vbytes_any S' q L c' w7 HV6.out).mono ?_;rintro e w8 ⟨A8,m8,c8,hm8,rfl,hown8,hk8⟩;have HM8:=Lib.hid hm8;have HB8:=Lib.hid (own_rd hown8);have HB78:=Lib.hid (HB7.out.kp0 hk8);replace HK6:=Lib.hid (HK6.out.trans (hk8.mono (by simp)));replace HV6:=Lib.hid (HV6.out.kp0 hk8);have HF8:=Lib.hid (HF7.out.kp0 hk8);replace HHS:=Lib.hid (Nat.le_trans HHS.out hk8.size);have h78:m8=m7:=by rw [HM8.out,HM7.out,HN.out,HM.out]
     subst h78;clear hm8 hown8 hk8;have hm3:m8≤1000000000:=by rw [HM7.out,HM.out];omega
     go_wp2_with fail;refine (equalB A7 A8 m8 m8 c7 c8 _ _ _ _ w8 HB78.out HB8.out (bytesN_len _ _) (bytesN_len _ _) hm3 hm3).mono ?_;have HBX:=Lib.hid (bytes_bits (a:=frontB T ts) (b:=L) (m:=m8) (by rw [HM.out,HN.out]) HM7.out);obtain ⟨D,hD⟩:∃ D,decide (bytesN (bitN (frontB T ts)) m8=bytesN (bitN L) m8)=D:=⟨_,rfl⟩;rw [hD];rintro e w9 ⟨rfl,hd9⟩;replace HK6:=Lib.hid (HK6.out.trans (hd9.kp S));replace HV6:=Lib.hid (HV6.out.kp0 (hd9.kp []));have HF9:=Lib.hid (HF8.out.kp0 (hd9.kp []));replace HHS:=Lib.hid (Nat.le_trans HHS.out (hd9.kp []).size);clear hd9
     cases D with
     | false =>
       have HNO:=Lib.hid (show readT T L k=none from by
        unfold readT;rw [HRK.out];have h1:¬ frontB T ts=L:=fun e=>by have:=HBX.out.2 e;simp [this] at hD
        simp [h1])
       clear hD;go_wp2_with fail;go_ret2;exact ⟨⟨S',c',HV6.out,HGW.out,HK6.out⟩,.inl ⟨HNO.out,rfl⟩⟩
     | true =>
       have HYES:=Lib.hid (show readT T L k=some ts from by
        unfold readT;rw [HRK.out];have h1:frontB T ts=L:=HBX.out.1 (by simpa using hD)
        simp [h1,HR6.out])
       clear hD;go_wp2_with fail;go_ret2;exact ⟨⟨S',c',HV6.out,HGW.out,HK6.out⟩,.inr ⟨ts,Sf,f,_,_,HYES.out,fun s hs=>⟨HEN.out s hs,by have:=HSZ.out s hs;omega⟩,HLN.out,hkb,rfl,HF9.out,HWS.out,HHS.out⟩⟩
    ·have hMNf:((M:Int) == (N:Int))=false:=by
      have:(M:Int) ≠ (N:Int):=by omega
      simpa using this
     have HNO:=Lib.hid (show readT T L k=none from by
      unfold readT;rw [HRK.out];have h1:¬ frontB T ts=L:=fun e=>by have h1:=HM.out;rw [e,HN.out] at h1;exact hMN h1.symm
      simp [h1])
     go_wp2_with fail;go_ret2;exact ⟨⟨S',c',HV6.out,HGW.out,HK6.out⟩,.inl ⟨HNO.out,rfl⟩⟩
end Go.Proofs.YtanacapkfllbnaaGreatDoor
