/-
  The document's layer 13: Read.
  LAYER 13 (section): SectionReads, the walk.
  LAYER 13 (section): SectionEnds, the walk.
  CONDITIONS: as each lemma says.
-/
import Derived.Test.YtanacapkfllbnaaGreatDoorR49
import Derived.Test.YtanacapkfllbnaaGreatDoorR50
import Derived.Test.YtanacapkfllbnaaGreatDoorR47
import Derived.Test.YtanacapkfllbnaaGreatDoorR07
import Derived.Test.YtanacapkfllbnaaGreatDoorR48
import Derived.Test.YtanacapkfllbnaaGreatDoorR06
set_option maxRecDepth 100000
set_option maxHeartbeats 4000000
namespace Go.Proofs.YtanacapkfllbnaaGreatDoor
open Go.RowKit

theorem RsM.low {w:World} {lo lo' hi r ct cb n m:Nat} {ts:List ByteArray} {At Ab:Option Addr} {bs:List Int} (h:RsM w lo hi r ts At Ab ct cb n m bs) (hl:lo'≤lo):RsM w lo' hi r ts At Ab ct cb n m bs:=
 ⟨h.blk,h.rt,h.rb,⟨Nat.le_trans hl h.bf.1,h.bf.2⟩,fun ad e=>Nat.le_trans hl (h.bt ad e),fun ad e=>Nat.le_trans hl (h.bb ad e),h.nt,h.nb,h.nc⟩
def Rread13P (b:List Int) (w:World) (e:Ending) (w':World):Prop:=Kp [] w w'∧((secRead b=none∧e=.returned (.tuple #[.pointer none,.int .i64 0,.int .i64 4])) ∨
 (∃ ts,secRead b=some ts∧∃ (r:Nat) (At Ab:Option Addr) (ct cb n m:Nat),e=.returned (.tuple #[.pointer (some ⟨r,0,none⟩),.int .i64 (m:Int),.int .i64 0])∧RsM w' w.heap.size w'.heap.size r ts At Ab ct cb n m (secBytes ts)))
theorem rread13_any (A:Option Addr) (n c B:Nat) (b:List Int) (w:World) (hx:Rd w B A (b.map (.int .u8))) (hn:b.length=n) (hc:n≤c) (hn9:n≤1000000000) (hv:∀ x ∈ b,0≤x∧x≤255) (hfit:FitB b) :
  Calls Tryz.prog 24 #[.slice A n c] w (Rread13P b w):=by
 have HX:=Lib.hid hx;have HFIT:=Lib.hid hfit;have HN:=Lib.hid hn;clear hn;have HV:=Lib.hid hv;clear hv;clear hx hfit
 go_enter Tryz.func24,Tryz.ntmps24
 go_wp2_with fail;refine (rtexts13_any A n c B b w HX.out HN.out hc hn9 HV.out HFIT.out).mono ?_;rintro e w2 ⟨hk2,⟨hno,v,rfl⟩ | ⟨ts,A2,n2,c2,hyes,rfl,hr2,hl2⟩⟩
 ·have HK2:=Lib.hid hk2;have HNO:=Lib.hid (secRead_none hno);clear hk2 hno;go_wp2_with fail
  go_ret3
  exact ⟨HK2.out,.inl ⟨HNO.out,rfl⟩⟩
 have HK2:=Lib.hid hk2;obtain ⟨f1,f2,f3,f4⟩:=HFIT.out.res ts hyes;have HFR:=Lib.hid (And.intro f1 (And.intro f2 (And.intro f3 f4)));have HYES:=Lib.hid hyes;have HR2:=Lib.hid hr2;have HL2:=Lib.hid hl2;replace HX:=Lib.hid (HX.out.kp0 hk2);clear hk2 f1 f2 f3 f4 hyes hr2 hl2;go_wp2_with fail;refine (rof13_any A2 n2 c2 _ ts w2 HR2.out HL2.out HFR.out.2.2.1 (by rw [← HL2.out];exact HFR.out.2.2.2) (Nat.le_refl _)).mono ?_;rintro e w3 ⟨hk3,⟨hr,_⟩ | ⟨_,r,At,Ab,ct,cb,n',m,rfl,hrs⟩⟩
 ·rw [HFR.out.1] at hr;cases hr
 have HK3:=Lib.hid (HK2.out.trans hk3);replace HX:=Lib.hid (HX.out.kp0 hk3);have HRS:=Lib.hid (hrs.low HK2.out.size);have hc1:=hrs.cells.2;have HC1:=Lib.hid hc1;have HBL:=Lib.hid hrs.nb;have HRB:=Lib.hid hrs.rb;clear hk3 hrs;by_cases hmn:n < m
 ·have hd:decide ((n:Int) < (m:Int))=true:=by simp;omega
  have HNO:=Lib.hid (secRead_no HYES.out (fun e=>by have h1:=congrArg List.length e;rw [HBL.out,List.length_take,HN.out] at h1;omega));go_wp2_with fail
  go_ret3
  exact ⟨HK3.out,.inl ⟨HNO.out,rfl⟩⟩
 have hd:decide ((n:Int) < (m:Int))=false:=by simp;omega
 go_wp2_with fail;clear hc1
 go_loopw [9] (fun x wr=>∃ k:Nat,x=.int .i64 (k:Int)∧k≤m∧Hid (b.take k=(secBytes ts).take k)∧Hid (Kp [] w3 wr)) (fun x _=>m - (intOf x).toNat)
 case atStart=>exact ⟨0,rfl,by omega,Lib.hid (by simp),Lib.hid (Kp.refl _ _)⟩
 case round =>
  obtain ⟨k,rfl,hk,HE,HKR⟩:=hrel;have hc1:wr.cell? ⟨r,1,none⟩=some (.slice Ab m cb):=HKR.out.cell HC1.out (by simp);by_cases hlt:k < m
  ·obtain ⟨x,hx⟩:∃ x,(secBytes ts)[k]? = some x:=⟨_,List.getElem?_eq_getElem (by rw [HBL.out];exact hlt)⟩;obtain ⟨y,hy⟩:∃ y,b[k]? = some y:=⟨_,List.getElem?_eq_getElem (by rw [HN.out];omega)⟩;obtain ⟨ad,rfl,_,hcx⟩:=(HRB.out.kp0 HKR.out).at_ (i:=k) (u:=.int .u8 x) (by rw [List.getElem?_map,hx];rfl);obtain ⟨ad2,rfl,_,hcy⟩:=(HX.out.kp0 HKR.out).at_ (i:=k) (u:=.int .u8 y) (by rw [List.getElem?_map,hy];rfl);have hb0:(0:Int)≤(k:Int):=by omega
   have hb1:(k:Int) < (m:Int):=by omega
   have hb2:(k:Int) < (n:Int):=by omega
   have HXK:=Lib.hid hx;have HYK:=Lib.hid hy;clear hx hy;by_cases hxy:x=y
   ·subst hxy;have HE2:=Lib.hid (show b.take (k+1)=(secBytes ts).take (k+1) from by rw [List.take_add_one,List.take_add_one,HE.out,HXK.out,HYK.out]);go_wp2_with fail
    go_quiet (fail)
    go_wp2_with fail;exact ⟨⟨k+1,by go_num,by omega,HE2,Lib.hid (HKR.out.drewN _)⟩,by simp [intOf];omega⟩
   ·have hxe:(x == y)=false:=by simpa using hxy
    have hxe2:(x != y)=true:=by simpa using hxy
    have HNO:=Lib.hid (secRead_no HYES.out (fun e=>by
     have h1:=congrArg (fun l=>l[k]?) e;have h1:(b.take (secBytes ts).length)[k]? = (secBytes ts)[k]? := h1;rw [List.getElem?_take,if_pos (by rw [HBL.out];exact hlt),HXK.out,HYK.out] at h1;injection h1 with h1
     exact hxy h1.symm))
    have HKE:=Lib.hid (HK3.out.trans HKR.out);clear hxy;go_wp2_with fail
    go_quiet (fail)
    go_wp2_with fail
    go_ret3
    exact ⟨HKE.out.drewN _,.inl ⟨HNO.out,rfl⟩⟩
  ·obtain rfl:k=m:=by omega
   have HY:=Lib.hid (secRead_yes HYES.out (by
    have h1:=HE.out;rw [List.take_of_length_le (l:=secBytes ts) (by rw [HBL.out];exact Nat.le_refl _)] at h1;rw [HBL.out]
    exact h1))
   have HKE:=Lib.hid (HK3.out.trans HKR.out);go_wp2_with fail
   go_quiet (fail)
   go_wp2_with fail
   go_ret3
   have hkd:Kp [] w3 (wr.drewN nq):=HKR.out.drewN nq;have h9:=HRS.out.kp0 hkd;refine ⟨HKE.out.drewN _,.inr ⟨ts,HY.out,r,At,Ab,ct,cb,n',k,rfl,?_⟩⟩;exact ⟨h9.blk,h9.rt.bound hkd.size,h9.rb.bound hkd.size,⟨h9.bf.1,Nat.lt_of_lt_of_le h9.bf.2 hkd.size⟩,h9.bt,h9.bb,h9.nt,h9.nb,h9.nc⟩
theorem Rd.lent8 {w:World} {g:Nat} {l more:List Int} (h:Blk w g 5 ((l ++ more).map (.int .u8))):Rd w w.heap.size (some ⟨g,0,none⟩) (l.map (.int .u8)):=by
 have:=(h.rd h.lt).take (l.map (Value.int .u8)).length
 rwa [List.map_append,List.take_left'] at this
 rfl
theorem sectionreads_any (A0:Option Addr) (n c0:Nat) (b:List Int) (t:ByteArray) (i:Int) (w:World) (h0:Rd w w.heap.size A0 (b.map (.int .u8))) (hn:b.length=n) (hc:n≤c0) (hv:∀ x ∈ b,0≤x∧x≤255) (ht':t.size≤140737488351232) (hi1:-9223372036854775808≤i) (hi2:i≤9223372036854775807) (ht:Tab64 w) :
  Calls Tryz.prog 5 #[.slice A0 n c0,.string t,.int .i64 i] w fun e w'=>e=.returned (.bool true)∧Kp [] w w':=by
 have HX:=Lib.hid h0;clear h0;have HN:=Lib.hid hn;clear hn;have HV:=Lib.hid hv;clear hv;have HT:=Lib.hid ht;clear ht
 go_enter Tryz.func5,Tryz.ntmps5
 by_cases h3:3000 < n
 ·have hzd:decide ((3000:Int) < (n:Int))=true:=by simp;omega
  go_wp2_with fail;refine (awake_s w HT.out).mono ?_;rintro e w1 ⟨rfl,hk1⟩;go_wp2_with fail;go_ret;exact ⟨rfl,hk1⟩
 have hzd:decide ((3000:Int) < (n:Int))=false:=by simp;omega
 by_cases h9:900 < t.size
 ·have hzd2:decide ((900:Int) < (t.size:Int))=true:=by simp;omega
  go_wp2_with fail;refine (awake_s w HT.out).mono ?_;rintro e w1 ⟨rfl,hk1⟩;go_wp2_with fail;go_ret;exact ⟨rfl,hk1⟩
 have hzd2:decide ((900:Int) < (t.size:Int))=false:=by simp;omega
 have ht9:t.size≤900:=by omega
 have hn3:n≤3000:=by omega
 have HFIT:=Lib.hid (fitB_small (b:=b) (by rw [HN.out];exact hn3));go_wp2_with fail;clear hzd hzd2 h3 h9 ht';refine (lentB A0 n c0 _ b w HX.out HN.out (by omega)).mono ?_;rintro e w1 ⟨rfl,hk1,hb1⟩;obtain ⟨g,hg⟩:∃ g,w.heap.size=g:=⟨_,rfl⟩;rw [hg] at hb1 ⊢;have HG:=Lib.hid hg;have HB:=Lib.hid hb1;have HK1:=Lib.hid hk1;have HT1:=Lib.hid (HT.out.kp0 hk1);have HGT:=Lib.hid (show 0 < g from by rw [← hg];exact HT.out.lt);replace HX:=Lib.hid (HX.out.kp0 hk1);clear hk1 hb1 hg;go_wp2_with fail;refine (sread_any (some ⟨g,0,none⟩) n (n+12) _ b w1 (Rd.lent8 HB.out) HN.out (by omega) HV.out (Nat.le_refl _) HT1.out HFIT.out).mono ?_;intro e w2 hS;obtain ⟨hk2,hcase⟩:=hS;have HCASE:=Lib.hid hcase;have HK2:=Lib.hid hk2;have HT2:=Lib.hid (HT1.out.kp0 hk2);replace HX:=Lib.hid (HX.out.kp0 hk2);have HB2:=Lib.hid (HB.out.kp0 hk2);clear hk2 hcase;have HRO:=Lib.hid (rread13_any A0 n c0 w.heap.size b w2 HX.out HN.out hc (by omega) HV.out HFIT.out);have HWW:=Lib.hid (show g < w1.heap.size from HB.out.lt);rcases HCASE.out with ⟨hno,rfl⟩ | ⟨ts,hyes,S,sp,v,gs,m,c,rfl,hsec,hS,hsp,hgS,hgs,hbl,hm9,hrb⟩
 ·have HNO:=Lib.hid hno;clear hno;go_wp2_with fail;refine HRO.out.mono ?_;rintro e w3 ⟨hk3,⟨_,rfl⟩ | ⟨us,hy,_⟩⟩
  ·have HK3:=Lib.hid hk3;clear hk3 HRO HCASE;go_wp2_with fail;refine (keptB (some ⟨g,0,none⟩) A0 n (n+12) c0 _ _ b w3 ((HB2.out.kp0 HK3.out).rd (HB2.out.kp0 HK3.out).lt) (HX.out.kp0 HK3.out) HN.out (by omega) (by omega)).mono ?_;rintro e w4 ⟨rfl,hd4⟩;have HK4:=Lib.hid (HK3.out.trans (hd4.kp []));have HK34:=Lib.hid (hd4.kp []);have HKA:=Lib.hid (HK1.out.trans (HK2.out.trans HK4.out));clear hd4;go_wp2_with fail;refine (overB_some g n (n+12) _ w4 (HB2.out.kp0 HK4.out) (by rw [List.length_map,List.length_append,HN.out];simp [marksB]) (by omega) (by omega) (by omega)).mono ?_;rintro e w7 ⟨rfl,hk7⟩;have HK7:=Lib.hid hk7;have HT7:=Lib.hid ((HT2.out.kp0 HK4.out).kp hk7 (fun hm=>by have h1:=List.mem_singleton.1 hm;have:=HGT.out;omega));have HKB:=Lib.hid (show Kp [] w w7 from HKA.out.trans' hk7 (fun x hx=>.inr (by rw [List.mem_singleton.1 hx,HG.out];exact Nat.le_refl _)));clear hk7;go_wp2_with fail;refine (awake_s w7 HT7.out).mono ?_;rintro e w8 ⟨rfl,hk8⟩;go_wp2_with fail;go_ret;exact ⟨rfl,HKB.out.trans hk8⟩
  ·rw [HNO.out] at hy;cases hy
 ·have HYES:=Lib.hid hyes;have HS:=Lib.hid hsec;have HSN:=Lib.hid (show (∀ x ∈ S,w1.heap.size≤x)∧w1.heap.size≤sp∧gs ∉ S∧w1.heap.size≤gs∧gs < w2.heap.size from ⟨hS,hsp,hgS,hgs⟩);have HSL2:=Lib.hid (show ∀ x ∈ S,x < w2.heap.size from hsec.2.1.lt);have HBL:=Lib.hid hbl;have HRB:=Lib.hid hrb
  have HRES:=Lib.hid (show ∀ s ∈ ts,s.size≤30000 from by
   have h1:∃ us,readTx b=some us:=by
    cases h2:readTx b with
    | none=>rw [secRead_none h2] at hyes;cases hyes
    | some us=>exact ⟨us,rfl⟩
   obtain ⟨us,h2⟩:=h1
   have h3:us=ts:=by
    unfold secRead at hyes;rw [h2] at hyes;simp only [Option.bind_some] at hyes
    split at hyes
    ·injection hyes
    ·cases hyes
   subst h3
   exact (HFIT.out.res us h2).2.2.1)
  clear hyes hsec hS hsp hgS hgs hbl hrb HCASE;go_wp2_with fail;refine HRO.out.mono ?_;rintro e w3 ⟨hk3,⟨hno,_⟩ | ⟨us,hy,r,At,Ab,ct,cb,n',m',rfl,hrs⟩⟩
  ·rw [HYES.out] at hno;cases hno
  obtain rfl:ts=us:=by rw [HYES.out] at hy;injection hy
  obtain rfl:m=m':=by rw [← HBL.out,hrs.nb]
  have HK3:=Lib.hid hk3;have HRS:=Lib.hid hrs;clear hk3 hrs hy HRO;go_wp2_with fail;refine (keptB (some ⟨g,0,none⟩) A0 n (n+12) c0 _ _ b w3 ((HB2.out.kp0 HK3.out).rd (HB2.out.kp0 HK3.out).lt) (HX.out.kp0 HK3.out) HN.out (by omega) (by omega)).mono ?_;rintro e w4 ⟨rfl,hd4⟩;have HK4:=Lib.hid (HK3.out.trans (hd4.kp []));have HK34:=Lib.hid (hd4.kp []);have HKA:=Lib.hid (HK1.out.trans (HK2.out.trans HK4.out));clear hd4;go_wp2_with fail;refine (overB_some g n (n+12) _ w4 (HB2.out.kp0 HK4.out) (by rw [List.length_map,List.length_append,HN.out];simp [marksB]) (by omega) (by omega) (by omega)).mono ?_;rintro e w7 ⟨rfl,hk7⟩;have HK7:=Lib.hid hk7;have HT7:=Lib.hid ((HT2.out.kp0 HK4.out).kp hk7 (fun hm=>by have h1:=List.mem_singleton.1 hm;have:=HGT.out;omega));have HKB:=Lib.hid (show Kp [] w w7 from HKA.out.trans' hk7 (fun x hx=>.inr (by rw [List.mem_singleton.1 hx,HG.out];exact Nat.le_refl _)));clear hk7
  have HGS:=Lib.hid (show ∀ x ∈ [g],x ∉ S∧(x < w1.heap.size ∨ w2.heap.size≤x)∧x ≠ 0 from fun x hx=>by
   rw [List.mem_singleton.1 hx];refine ⟨fun hm=>?_,.inl HWW.out,fun e=>by have:=HGT.out;omega⟩;have:=HSN.out.1 g hm;have:=HWW.out
   omega)
  have HS7:=Lib.hid ((HS.out.kp0 HK4.out).kp HK7.out HGS.out (fun hm=>by have h1:=List.mem_singleton.1 hm;have h2:=HSN.out.2.1;have h3:=HWW.out;omega));have HRS7:=Lib.hid ((HRS.out.kp0 HK34.out).kp HK7.out (fun x hx=>by rw [List.mem_singleton.1 hx];left;have h3:=HWW.out;have h4:=HK2.out.size;omega))
  have HRB7:=Lib.hid (((HRB.out.kp0 HK4.out).kp_ne HK7.out (fun ad e hm=>by
   injection e with e
   subst e;have h1:=List.mem_singleton.1 hm;have h2:=HSN.out.2.2.2.1;have h3:=HWW.out;simp only at h1
   omega)).bound (Nat.le_trans HK4.out.size HK7.out.size))
  have HH4:=Lib.hid (show w2.heap.size≤w3.heap.size∧w3.heap.size≤w7.heap.size from ⟨HK3.out.size,Nat.le_trans HK34.out.size HK7.out.size⟩);have HSZ2:=Lib.hid (show ∀ x ∈ ts,x.size≤1000000000000 from fun s hs=>by have:=HRES.out s hs;omega);clear HS HRS HRB HB2 HT2 HX;go_wp2_with fail;refine (same13_any t i sp gs m c w2.heap.size w3.heap.size r ct cb n' m At Ab S v ts (secBytes ts) w7 HS7.out HRB7.out HBL.out hm9 HSN.out.2.2.1 (by have h1:=HSN.out.2.2.2.2;have h2:=HH4.out;omega) HRS7.out (fun x hx=>.inl (HSL2.out x hx)) HH4.out.2 (by omega) HSZ2.out hi1 hi2).mono ?_;rintro e w8 ⟨rfl,hk8⟩;have HT8:=Lib.hid (HT7.out.kp hk8 (fun hm=>HS7.out.2.1.tabS _ hm rfl));have HKC:=Lib.hid (show Kp [] w w8 from HKB.out.trans' hk8 (fun x hx=>.inr (Nat.le_trans HK1.out.size (HSN.out.1 x hx))));clear hk8;go_wp2_with fail;refine (awake_s w8 HT8.out).mono ?_;rintro e w9 ⟨rfl,hk9⟩;go_wp2_with fail;go_ret;exact ⟨rfl,HKC.out.trans hk9⟩
theorem own_putf {w:World} {base:Nat} {e:TypeId} {A:Option Addr} {n c:Nat} {xs:List Value} (h:w.ownsRow base e 1 (.slice A n c) n xs) {k:Nat} (hk:k < n) :
  ∃ g u,A=some ⟨g,0,none⟩∧xs[k]? = some u∧w.cell? ⟨g,k,none⟩=some u∧w.frozen? ⟨g,k,none⟩=false∧∀ z,(w.setCell ⟨g,k,none⟩ z).ownsRow base e 1 (.slice A n c) n (xs.set k z):=by
 rcases own_blk h with ⟨_,hn,_⟩ | ⟨g,cap,rest,hv,hb,hB,hn,hm,hx,hc⟩
 ·omega
 ·injection hv with hv _ hcc
  subst hv hcc;rw [Nat.mul_one] at hx;obtain ⟨u,hu⟩:∃ u,xs[k]? = some u:=⟨_,List.getElem?_eq_getElem (by omega)⟩;refine ⟨g,u,rfl,hu,by rw [hB.cell,List.getElem?_append_left (by omega)];exact hu,hB.free k,fun z=>?_⟩;have h3:=hB.set_ k z;rw [List.set_append_left _ _ (by omega)] at h3;exact own_of_blk h3 hb hn hm (by rw [List.length_set,hx,Nat.mul_one]) (by simpa using hc)
theorem wpList_append_rdw {P:Program} {w:World} {ops:Array Oper} {rest:List Oper} {o:Oper} {a:Act} {Q:Exit→Act→World→Prop} (hgd:Region.wanted o (yielded ops a.tmps)=true) (s x:Operand) (t:TypeId)
  (ho:o.op=.call { callee:=.builtin .append,args:=#[s,x],argTypes:=#[t,t] })
  (base:Nat) (e:TypeId) (i:TypeInfo) (z:Value) (size bytes:Nat) (ht:P.underlying t=some (.slice e)) (hi:P.info? e=some i) (hz:i.zero=some z)
  (hsize:i.size=size) (hby:i.bytes=bytes) (hzs:z.cells.size=size) (hsz:0 < size)
  (v:Value) (n:Nat) (xs:List Value) (hs:a.eval s=v) (hown:w.ownsRow base e size v n xs)
  (B:Nat) (A:Option Addr) (m c:Nat) (news:List Value) (hx:a.eval x=.slice A m c) (hl:news.length=m * size) (hr:Rd w B A news) (h1:∀ u ∈ news,u.oneCell'=true)
  (h63:n+m≤maxLen) (hbytes:(n+m) * bytes≤140737488355328) (hbase:base≤w.heap.size)
  (h:∀ v' w',w'.ownsRow base e size v' (n+m) (xs ++ news)→w.grownBy w' v.ownBlock→(v'.ownBlock=v.ownBlock ∨ v'.ownBlock=some w.heap.size)→wpList P ops Q rest (a.put o.dst v') w') :
  wpList P ops Q (o :: rest) a w:=
 Go.BigFrame.wpList_want hgd fun _ hK=>wp_append_rd s x t ho base e i z size bytes ht hi hz hsize hby hzs hsz v n xs hs hown B A m c news hx hl hr h1 h63 hbytes hbase fun v' w' h2 h3 h4=>hK _ _ (h v' w' h2 h3 h4)
theorem own_nilE (w:World):(w.alloc (.cells #[] 5)).ownsRow w.heap.size 5 1 (.slice (some ⟨w.heap.size,0,none⟩) 0 0) 0 []:=
 own_of_blk (xs:=[]) (rest:=[]) (Blk.new w 5 []) (Nat.le_refl _) (Nat.le_refl _) (Nat.zero_le _) rfl rfl
def Ends13 (w wr:World) (n cd cf:Nat) (Ad Af:Option Addr) (fs:List ByteArray):Prop:=
 TwoR wr w.heap.size 9 9 (.slice Ad n cd) (.slice Af n cf) n n ((dS n).map .string) (fs.map .string)∧(∀ x ∈ fs,x.size≤26)∧fs.length=n∧Kp [] w wr
theorem sectionends_any (w:World) (ht:Tab64 w):Calls Tryz.prog 6 #[] w fun e w'=>e=.returned (.bool true)∧Kp [] w w':=by
 obtain ⟨i0,hi0,hz0,hz1,hz2⟩:=info_parts Tryz.info_str17;obtain ⟨ib,hib,hb1,hb2,hb3⟩:=info_parts Tryz.info_byS;have HT:=Lib.hid ht;clear ht
 go_enter Tryz.func6,Tryz.ntmps6
 go_wp2_with fail
 go_loopw [1,2,3,4] (fun v u y x wr=>∃ (n cd cf:Nat) (Ad Af:Option Addr) (fs:List ByteArray),v=.slice Ad n cd∧u=.slice Af n cf∧y=.string (tS n)∧x=.int .i64 (n:Int)∧n≤20∧Hid (Ends13 w wr n cd cf Ad Af fs)) (fun _ _ _ x _=>20 - (intOf x).toNat)
 case atStart=>exact ⟨0,0,0,none,none,[],rfl,rfl,rfl,rfl,by omega,Lib.hid ⟨TwoR.nil _ _ _ _,by simp,rfl,Kp.refl _ _⟩⟩
 case round =>
  obtain ⟨n,cd,cf,Ad,Af,fs,rfl,rfl,rfl,rfl,hn,HE⟩:=hrel;by_cases hlt:n < 20
  ·have hnI:decide ((n:Int) < 20)=true:=by simp;omega
   have HDL:=Lib.hid (dS_len n);have HFL:=Lib.hid HE.out.2.2.1;have HDS:=Lib.hid (show ∀ x ∈ dS n,x.size≤140737488351232 from fun x hx=>by have:=dS_size (n:=n) (by omega) x hx;omega);have HFS:=Lib.hid (show ∀ x ∈ fs,x.size≤140737488351232 from fun x hx=>by have:=HE.out.2.1 x hx;omega);have hts:(tS n).size≤30:=by have:=tS_size n;omega
   have HRD:=Lib.hid (show Rd wr wr.heap.size Ad ((dS n).map .string) from own_rd HE.out.1.o1);have HRF:=Lib.hid (show Rd wr wr.heap.size Af (fs.map .string) from own_rd HE.out.1.o2);have HTR:=Lib.hid (HT.out.kp0 HE.out.2.2.2);obtain ⟨s,hs⟩:∃ s,tS n=s:=⟨_,rfl⟩;have HSE:=Lib.hid hs;rw [hs] at hts ⊢;clear hs;have hn27:n≤140737488351232:=by omega
   have hncd:n≤cd:=by obtain ⟨_,_,hv,hc,_⟩:=own_form HE.out.1.o1;injection hv with _ _ hv;omega
   go_wp2_with fail;refine (sectionof_any Ad n cd (dS n) s (n:Int) wr HRD.out HDL.out hn27 HDS.out (by omega) (by omega) (by omega) HTR.out).mono ?_;rintro e w3 ⟨rfl,hk3⟩;have HK3:=Lib.hid hk3;clear hk3;go_wp2_with fail;refine (sectionof_any Af n cf fs s ((n:Int)+1) w3 ((HRF.out.kp0 HK3.out).bound HK3.out.size) HFL.out hn27 HFS.out (by omega) (by omega) (by omega) (HTR.out.kp0 HK3.out)).mono ?_;rintro e w4 ⟨rfl,hk4⟩;have HK4:=Lib.hid (HK3.out.trans hk4);clear hk4;go_wp2_with fail;refine (sectionof_any Af n cf fs ⟨#[]⟩ (-(n:Int)) w4 ((HRF.out.kp0 HK4.out).bound HK4.out.size) HFL.out hn27 HFS.out (by decide) (by omega) (by omega) (HTR.out.kp0 HK4.out)).mono ?_;rintro e w5 ⟨rfl,hk5⟩;have HK5:=Lib.hid (HK4.out.trans hk5);clear hk5 HK3 HK4
   cases Ad with
   | some add =>
     have HRDn:=Lib.hid (show Rd (w5.alloc (.cells #[.string ⟨#[]⟩] 9)) wr.heap.size (some add) ((dS n).map .string) from (HRD.out.kp0 HK5.out).kp0 ((Kp.refl [] _).alloc _));have HDLM:=Lib.hid (show ((dS n).map (Value.string)).length=n * 1 from by rw [List.length_map,HDL.out,Nat.mul_one])
     go_wp2_with (at_builtin;go_loud (refine wpList_append_full (by rfl) (.tmp 45) (.tmp 46) 22 rfl 9 i0 (.string ⟨#[]⟩) 1 16 Tryz.underlying22 hi0 hz0 hz1 hz2 rfl (by decide) add n n _ _ ((dS n).map .string) [.string ⟨#[]⟩] rfl HDLM.out HRDn.out ⟨w5.heap.size,0,none⟩ 1 1 rfl rfl (Rd.new w5 #[.string ⟨#[]⟩] 9 (0,0)) (by omega) (by unfold maxLen;omega) (by omega) ?_);intro v6 w6 hown6 hk6;obtain ⟨A6,c6,rfl,_⟩:=own_form hown6)
     have HK6:=Lib.hid ((HK5.out.alloc (.cells #[.string ⟨#[]⟩] 9)).trans hk6);clear hk6 HRDn HDLM;have HR6:=Lib.hid (show Rd w6 w6.heap.size A6 ((dS n ++ [(⟨#[]⟩:ByteArray)]).map .string) from by rw [List.map_append];exact own_rd hown6);have HL6:=Lib.hid (show (dS n ++ [(⟨#[]⟩:ByteArray)]).length=n+1 by rw [List.length_append,HDL.out];rfl)
     have HS6:=Lib.hid (show ∀ x ∈ dS n ++ [(⟨#[]⟩:ByteArray)],x.size≤140737488351232 from fun x hx=>by
      rcases List.mem_append.1 hx with h | h
      ·exact HDS.out x h
      ·rw [List.mem_singleton.1 h];decide)
     clear hown6;refine (sectionof_any A6 (n+1) c6 (dS n ++ [(⟨#[]⟩:ByteArray)]) ⟨#[]⟩ 1 w6 HR6.out HL6.out (by omega) HS6.out (by decide) (by omega) (by omega) (HTR.out.kp0 HK6.out)).mono ?_;rintro e w7 ⟨rfl,hk7⟩;have HK7:=Lib.hid (HK6.out.trans hk7);clear hk7 HR6 HL6 HS6 HK6 HK5;have HTW:=Lib.hid (HE.out.1.kp HK7.out (by simp));have hO:=Lib.hid HTW.out.o1;have HKW:=Lib.hid (HE.out.2.2.2.trans HK7.out);have HSZ:=Lib.hid HKW.out.size;obtain ⟨rm,hrm⟩:∃ rm,rm=n % 2:=⟨_,rfl⟩;have HRM:=Lib.hid hrm;have htm:Int.tmod (n:Int) 2=(rm:Int):=by rw [Int.tmod_eq_emod_of_nonneg (by omega)];omega
     have hrm1:rm≤1:=by omega
     have hr0:(0:Int)≤(rm:Int):=by omega
     have hr2:(rm:Int)+1≤2:=by omega
     have hs26:s.size≤30:=hts;clear hrm
     go_wp2_with (at_builtin;go_loud (refine wpList_append_rd rfl (.tmp 51) (.tmp 53) 22 rfl (w.heap.size) 9 i0 (.string ⟨#[]⟩) 1 16 Tryz.underlying22 hi0 hz0 hz1 hz2 rfl (by decide) (.slice (some add) n cd) (n) _ rfl (own_kp0 hO.out ((Kp.refl [] _).alloc _)) _ _ 1 1 [.string s] rfl rfl (Rd.new w7 #[.string s] 9 (0,0)) (by intro u hu;simp at hu;subst hu;rfl) (by unfold maxLen;omega) (by omega) (by have:=HSZ.out;simp;omega) ?_);intro v8 w8 hown8 hgrow8 hat8;obtain ⟨hka8,hga8⟩:=app_facts hgrow8 hat8;obtain ⟨A8',c8',rfl,_⟩:=own_form hown8)
     have HTW8:=Lib.hid (HTW.out.left hown8 hgrow8 hat8);have HK8:=Lib.hid (HKW.out.trans' hka8 (fun x hx=>.inr (own_ge HTW.out.o1 (mem_ownL.1 hx)).1));have HSZ8:=Lib.hid HK8.out.size;have hO8:=Lib.hid HTW8.out.o2;clear hown8 hgrow8 hat8 hka8 hga8 hO;obtain ⟨w9,hw9⟩:∃ w9,w9=w8.alloc (.cells #[.int .u8 (13 * (n:Int)),.int .u8 (n:Int)] 5):=⟨_,rfl⟩;have hk9:Kp [] w8 w9:=by rw [hw9];exact (Kp.refl [] w8).alloc _
     have hcv:(convert 41 9 (.slice (some ⟨w8.heap.size,0,none⟩) 2 2)).run Tryz.prog (w8.alloc (.cells #[.int .u8 (13 * (n:Int)),.int .u8 (n:Int)] 5))=.ok (.string (strN [13 * n,n])) w9:=by
      rw [hw9];exact run_strN _ _ 2 2 _ [13 * n,n] rfl (by intro x hx;simp at hx;omega) (Rd.new w8 #[.int .u8 (13 * (n:Int)),.int .u8 (n:Int)] 5 (0,0))
     have HSZ9:=Lib.hid (Nat.le_trans HSZ8.out hk9.size);have HO9:=Lib.hid (own_kp0 hO8.out hk9);go_wp2_with fail;rw [hcv];clear hcv hw9
     go_wp2_with (at_builtin;go_loud (refine wpList_append_rd rfl (.tmp 63) (.tmp 71) 22 rfl (w.heap.size) 9 i0 (.string ⟨#[]⟩) 1 16 Tryz.underlying22 hi0 hz0 hz1 hz2 rfl (by decide) (.slice Af n cf) (n) _ rfl (own_kp0 HO9.out ((Kp.refl [] _).alloc _)) _ _ 1 1 [.string (strN [13 * n,n])] rfl rfl (Rd.new w9 #[.string (strN [13 * n,n])] 9 (0,0)) (by intro u hu;simp at hu;subst hu;rfl) (by unfold maxLen;omega) (by omega) (by have:=HSZ9.out;simp;omega) ?_);intro v11 w11 hown11 hgrow11 hat11;obtain ⟨hka11,hga11⟩:=app_facts hgrow11 hat11;obtain ⟨A11',c11',rfl,_⟩:=own_form hown11)
     obtain ⟨fn,hfn⟩:∃ fn,fn=strN [13 * n,n]:=⟨_,rfl⟩;have hfz:fn.size=2:=by rw [hfn,strN_size];rfl
     rw [← hfn] at hown11;have HTW11:=Lib.hid (((HTW8.out.kp hk9 (by simp)).swap.left hown11 hgrow11 hat11).swap);have HK11:=Lib.hid ((HK8.out.trans hk9).trans' hka11 (fun x hx=>.inr (own_ge HO9.out (mem_ownL.1 hx)).1))
     have HE11:=Lib.hid (show Ends13 w w11 (n+1) c8' c11' A8' A11' (fs ++ [fn]) from ⟨by rw [dS_succ,HSE.out,List.map_append,List.map_append];exact HTW11.out,fun x hx=>by
      rcases List.mem_append.1 hx with h | h
      ·exact HE.out.2.1 x h
      ·rw [List.mem_singleton.1 h];omega,by rw [List.length_append,HE.out.2.2.1];rfl,HK11.out⟩)
     have HTS:=Lib.hid (show s ++ (⟨#[97,98]⟩:ByteArray).extract rm (rm+1)=tS (n+1) from by rw [← HSE.out,HRM.out];rfl);clear hk9 HSZ9 HO9 hown11 hgrow11 hat11 hka11 hga11 HTW HTW8 HTW11 HK8 HSZ8 hO8 HE HSZ hfn;go_wp2_with fail;exact ⟨⟨n+1,c8',c11',A8',A11',fs ++ [fn],rfl,rfl,by rw [HTS.out],by go_num,by omega,HE11⟩,by simp [intOf];omega⟩
   | none =>
     obtain ⟨hn0,hcd0⟩:n=0∧cd=0:=by
      obtain ⟨_,_,hv,_,_,h0,_⟩:=own_form HE.out.1.o1;injection hv with e1 e2 e3
      have:=h0 e1.symm;omega
     have HNIL:=Lib.hid (show (w5.alloc (.cells #[.string ⟨#[]⟩] 9)).ownsRow w5.heap.size 9 1 (.slice none n n) n ((dS n).map .string) from by
      rw [hn0]
      exact World.ownsRow_nil _ _ _ 1)
     clear hn0 hcd0
     go_wp2_with (at_builtin;go_loud (refine wpList_append_rdw (by rfl) (.tmp 45) (.tmp 46) 22 rfl w5.heap.size 9 i0 (.string ⟨#[]⟩) 1 16 Tryz.underlying22 hi0 hz0 hz1 hz2 rfl (by decide) (.slice none n n) n ((dS n).map .string) rfl HNIL.out _ _ 1 1 [.string ⟨#[]⟩] rfl rfl (Rd.new w5 #[.string ⟨#[]⟩] 9 (0,0)) (by intro u hu;simp at hu;subst hu;rfl) (by unfold maxLen;omega) (by omega) (by simp) ?_);intro v6 w6 hown6 hgrow6 hat6;obtain ⟨A6,c6,rfl,_⟩:=own_form hown6)
     have HK6:=Lib.hid (show Kp [] wr w6 from HK5.out.trans (((Kp.refl [] w5).alloc _).grown hgrow6 (fun x hx=>by simp [Value.ownBlock] at hx)));clear hgrow6 hat6 HNIL;have HR6:=Lib.hid (show Rd w6 w6.heap.size A6 ((dS n ++ [(⟨#[]⟩:ByteArray)]).map .string) from by rw [List.map_append];exact own_rd hown6);have HL6:=Lib.hid (show (dS n ++ [(⟨#[]⟩:ByteArray)]).length=n+1 by rw [List.length_append,HDL.out];rfl)
     have HS6:=Lib.hid (show ∀ x ∈ dS n ++ [(⟨#[]⟩:ByteArray)],x.size≤140737488351232 from fun x hx=>by
      rcases List.mem_append.1 hx with h | h
      ·exact HDS.out x h
      ·rw [List.mem_singleton.1 h];decide)
     clear hown6;refine (sectionof_any A6 (n+1) c6 (dS n ++ [(⟨#[]⟩:ByteArray)]) ⟨#[]⟩ 1 w6 HR6.out HL6.out (by omega) HS6.out (by decide) (by omega) (by omega) (HTR.out.kp0 HK6.out)).mono ?_;rintro e w7 ⟨rfl,hk7⟩;have HK7:=Lib.hid (HK6.out.trans hk7);clear hk7 HR6 HL6 HS6 HK6 HK5;have HTW:=Lib.hid (HE.out.1.kp HK7.out (by simp));have hO:=Lib.hid HTW.out.o1;have HKW:=Lib.hid (HE.out.2.2.2.trans HK7.out);have HSZ:=Lib.hid HKW.out.size;obtain ⟨rm,hrm⟩:∃ rm,rm=n % 2:=⟨_,rfl⟩;have HRM:=Lib.hid hrm;have htm:Int.tmod (n:Int) 2=(rm:Int):=by rw [Int.tmod_eq_emod_of_nonneg (by omega)];omega
     have hrm1:rm≤1:=by omega
     have hr0:(0:Int)≤(rm:Int):=by omega
     have hr2:(rm:Int)+1≤2:=by omega
     have hs26:s.size≤30:=hts;clear hrm
     go_wp2_with (at_builtin;go_loud (refine wpList_append_rd rfl (.tmp 51) (.tmp 53) 22 rfl (w.heap.size) 9 i0 (.string ⟨#[]⟩) 1 16 Tryz.underlying22 hi0 hz0 hz1 hz2 rfl (by decide) (.slice none n cd) (n) _ rfl (own_kp0 hO.out ((Kp.refl [] _).alloc _)) _ _ 1 1 [.string s] rfl rfl (Rd.new w7 #[.string s] 9 (0,0)) (by intro u hu;simp at hu;subst hu;rfl) (by unfold maxLen;omega) (by omega) (by have:=HSZ.out;simp;omega) ?_);intro v8 w8 hown8 hgrow8 hat8;obtain ⟨hka8,hga8⟩:=app_facts hgrow8 hat8;obtain ⟨A8',c8',rfl,_⟩:=own_form hown8)
     have HTW8:=Lib.hid (HTW.out.left hown8 hgrow8 hat8);have HK8:=Lib.hid (HKW.out.trans' hka8 (fun x hx=>.inr (own_ge HTW.out.o1 (mem_ownL.1 hx)).1));have HSZ8:=Lib.hid HK8.out.size;have hO8:=Lib.hid HTW8.out.o2;clear hown8 hgrow8 hat8 hka8 hga8 hO;obtain ⟨w9,hw9⟩:∃ w9,w9=w8.alloc (.cells #[.int .u8 (13 * (n:Int)),.int .u8 (n:Int)] 5):=⟨_,rfl⟩;have hk9:Kp [] w8 w9:=by rw [hw9];exact (Kp.refl [] w8).alloc _
     have hcv:(convert 41 9 (.slice (some ⟨w8.heap.size,0,none⟩) 2 2)).run Tryz.prog (w8.alloc (.cells #[.int .u8 (13 * (n:Int)),.int .u8 (n:Int)] 5))=.ok (.string (strN [13 * n,n])) w9:=by
      rw [hw9];exact run_strN _ _ 2 2 _ [13 * n,n] rfl (by intro x hx;simp at hx;omega) (Rd.new w8 #[.int .u8 (13 * (n:Int)),.int .u8 (n:Int)] 5 (0,0))
     have HSZ9:=Lib.hid (Nat.le_trans HSZ8.out hk9.size);have HO9:=Lib.hid (own_kp0 hO8.out hk9);go_wp2_with fail;rw [hcv];clear hcv hw9
     go_wp2_with (at_builtin;go_loud (refine wpList_append_rd rfl (.tmp 63) (.tmp 71) 22 rfl (w.heap.size) 9 i0 (.string ⟨#[]⟩) 1 16 Tryz.underlying22 hi0 hz0 hz1 hz2 rfl (by decide) (.slice Af n cf) (n) _ rfl (own_kp0 HO9.out ((Kp.refl [] _).alloc _)) _ _ 1 1 [.string (strN [13 * n,n])] rfl rfl (Rd.new w9 #[.string (strN [13 * n,n])] 9 (0,0)) (by intro u hu;simp at hu;subst hu;rfl) (by unfold maxLen;omega) (by omega) (by have:=HSZ9.out;simp;omega) ?_);intro v11 w11 hown11 hgrow11 hat11;obtain ⟨hka11,hga11⟩:=app_facts hgrow11 hat11;obtain ⟨A11',c11',rfl,_⟩:=own_form hown11)
     obtain ⟨fn,hfn⟩:∃ fn,fn=strN [13 * n,n]:=⟨_,rfl⟩;have hfz:fn.size=2:=by rw [hfn,strN_size];rfl
     rw [← hfn] at hown11;have HTW11:=Lib.hid (((HTW8.out.kp hk9 (by simp)).swap.left hown11 hgrow11 hat11).swap);have HK11:=Lib.hid ((HK8.out.trans hk9).trans' hka11 (fun x hx=>.inr (own_ge HO9.out (mem_ownL.1 hx)).1))
     have HE11:=Lib.hid (show Ends13 w w11 (n+1) c8' c11' A8' A11' (fs ++ [fn]) from ⟨by rw [dS_succ,HSE.out,List.map_append,List.map_append];exact HTW11.out,fun x hx=>by
      rcases List.mem_append.1 hx with h | h
      ·exact HE.out.2.1 x h
      ·rw [List.mem_singleton.1 h];omega,by rw [List.length_append,HE.out.2.2.1];rfl,HK11.out⟩)
     have HTS:=Lib.hid (show s ++ (⟨#[97,98]⟩:ByteArray).extract rm (rm+1)=tS (n+1) from by rw [← HSE.out,HRM.out];rfl);clear hk9 HSZ9 HO9 hown11 hgrow11 hat11 hka11 hga11 HTW HTW8 HTW11 HK8 HSZ8 hO8 HE HSZ hfn;go_wp2_with fail;exact ⟨⟨n+1,c8',c11',A8',A11',fs ++ [fn],rfl,rfl,by rw [HTS.out],by go_num,by omega,HE11⟩,by simp [intOf];omega⟩
  ·have hnI:decide ((n:Int) < 20)=false:=by simp;omega
   have hn20:n=20:=by omega
   have hcd9:9≤cd:=by obtain ⟨_,_,hv,hc,_⟩:=own_form HE.out.1.o1;injection hv with _ _ hv;omega
   have hcd9i:(9:Int)≤(cd:Int):=by omega
   have HRD:=Lib.hid (show Rd wr wr.heap.size Ad ((dS 9).map .string) from by
    have h1:=(own_rd HE.out.1.o1).take 9;rw [← List.map_take] at h1;have e:(dS n).take 9=dS 9:=by rw [hn20];decide +kernel
    rw [e] at h1
    exact h1)
   have HK:=Lib.hid HE.out.2.2.2;clear HE;go_wp2_with fail;obtain ⟨a,ha⟩:∃ a,a=wr.heap.size:=⟨_,rfl⟩;obtain ⟨w1,hw1⟩:∃ w1,w1=wr.alloc (.cells #[.string ⟨#[]⟩] 9):=⟨_,rfl⟩;obtain ⟨w2,hw2⟩:∃ w2,w2=w1.alloc (.cells #[.string ⟨#[97]⟩] 9):=⟨_,rfl⟩;obtain ⟨w3,hw3⟩:∃ w3,w3=w2.alloc (.cells #[.string ⟨#[]⟩,.string ⟨#[97]⟩,.string ⟨#[97,98]⟩] 9):=⟨_,rfl⟩;obtain ⟨w4,hw4⟩:∃ w4,w4=w3.alloc (.cells #[.slice none 0 0,.slice (some ⟨a,0,none⟩) 1 1,.slice (some ⟨a+1,0,none⟩) 1 1,.slice (some ⟨a+1+1,0,none⟩) 3 3,.slice Ad 9 cd] 22):=⟨_,rfl⟩;obtain ⟨ad,had⟩:∃ ad:Addr,ad=⟨a+1+1+1,0,none⟩:=⟨_,rfl⟩;rw [← ha,← hw1,← hw2,← hw3,← hw4,← had];have s1:w1.heap.size=a+1:=by rw [hw1,ha];simp
   have s2:w2.heap.size=a+1+1:=by rw [hw2];simp [s1]
   have s3:w3.heap.size=a+1+1+1:=by rw [hw3];simp [s2]
   have k1:Kp [] wr w1:=by rw [hw1];exact (Kp.refl [] wr).alloc _
   have k2:Kp [] w1 w2:=by rw [hw2];exact (Kp.refl [] w1).alloc _
   have k3:Kp [] w2 w3:=by rw [hw3];exact (Kp.refl [] w2).alloc _
   have k4:Kp [] w3 w4:=by rw [hw4];exact (Kp.refl [] w3).alloc _
   have HROWS:=Lib.hid (show ∀ (i:Nat) (l:List ByteArray),rowsL[i]? = some l→∃ (A:Option Addr) (n' c':Nat),w4.cell? (ad.add i)=some (.slice A n' c')∧Rd w4 w4.heap.size A (l.map .string)∧l.length=n' from by
    have hB:Blk w4 (a+1+1+1) 22 [.slice none 0 0,.slice (some ⟨a,0,none⟩) 1 1,.slice (some ⟨a+1,0,none⟩) 1 1,.slice (some ⟨a+1+1,0,none⟩) 3 3,.slice Ad 9 cd]:=by rw [hw4,← s3];exact Blk.new w3 22 _
    have hb1:Blk w1 a 9 [.string ⟨#[]⟩]:=by rw [hw1,ha];exact Blk.new wr 9 _
    have hb2:Blk w2 (a+1) 9 [.string ⟨#[97]⟩]:=by rw [hw2,← s1];exact Blk.new w1 9 _
    have hb3:Blk w3 (a+1+1) 9 [.string ⟨#[]⟩,.string ⟨#[97]⟩,.string ⟨#[97,98]⟩]:=by rw [hw3,← s2];exact Blk.new w2 9 _
    have hcell:∀ i,w4.cell? (ad.add i)=([.slice none 0 0,.slice (some ⟨a,0,none⟩) 1 1,.slice (some ⟨a+1,0,none⟩) 1 1,.slice (some ⟨a+1+1,0,none⟩) 3 3,.slice Ad 9 cd]:List Value)[i]? := fun i=>by
     have e:ad.add i=⟨a+1+1+1,i,none⟩:=by
      rw [had];unfold Addr.add;by_cases h:i=0
      ·rw [if_pos h,h]
      ·rw [if_neg h,Nat.zero_add]
     rw [e,hB.cell]
    intro i l hl;rw [hcell];have r1:=hb1.kp0 (k2.trans (k3.trans k4));have r2:=hb2.kp0 (k3.trans k4);have r3:=hb3.kp0 k4;rcases i with _ | _ | _ | _ | _ | i
    ·injection hl with hl;subst hl;exact ⟨_,_,_,rfl,Rd.nil _ _ _,rfl⟩
    ·injection hl with hl;subst hl;exact ⟨_,_,_,rfl,r1.rd r1.lt,rfl⟩
    ·injection hl with hl;subst hl;exact ⟨_,_,_,rfl,r2.rd r2.lt,rfl⟩
    ·injection hl with hl;subst hl;exact ⟨_,_,_,rfl,r3.rd r3.lt,rfl⟩
    ·injection hl with hl;subst hl;exact ⟨_,_,_,rfl,(HRD.out.kp0 (k1.trans (k2.trans (k3.trans k4)))).bound (k1.trans (k2.trans (k3.trans k4))).size,dS_len 9⟩
    ·cases hl)
   replace HK:=Lib.hid (HK.out.trans (k1.trans (k2.trans (k3.trans k4))));have HT4:=Lib.hid (HT.out.kp0 HK.out);clear s1 s2 s3 k1 k2 k3 k4 hw1 hw2 hw3 hw4 ha had HRD hcd9 hcd9i hlt hn20
   go_loopw [6] (fun x wr=>∃ i:Nat,x=.int .i64 (i:Int)∧i≤5∧Hid (Kp [] w4 wr)) (fun x _=>5 - (intOf x).toNat)
   case atStart=>exact ⟨0,rfl,by omega,Lib.hid (Kp.refl _ _)⟩
   case round =>
    obtain ⟨i,rfl,hi,HKR⟩:=hrel;by_cases hi5:i < 5
    ·obtain ⟨l,hl⟩:∃ l,rowsL[i]? = some l:=⟨_,List.getElem?_eq_getElem (show i < rowsL.length from hi5)⟩;have hml:=List.mem_of_getElem? hl;obtain ⟨A2,n2,c2,hcr,hr2,hl2⟩:=HROWS.out i l hl;have hcr2:=HKR.out.cell hcr (by simp);have hb0:(0:Int)≤(i:Int):=by omega
     have hb1':(i:Int) < 5:=by omega
     have HSY:=Lib.hid (rowsL_sym l hml);have HRI:=Lib.hid (rowsL_rise l hml);have HR2:=Lib.hid hr2;have HL2:=Lib.hid hl2;clear hl hml hcr hr2 hl2;have HSZ:=Lib.hid (sym_size HSY.out);have HPC:=Lib.hid (sym_pieces HSY.out);have hn2:l.length≤200:=Nat.le_trans (symL_ge l) HSY.out;have HBLN:=Lib.hid (secBytes_len l (by omega) (fun s hs=>by have:=HSZ.out s hs;omega) (by have:=HPC.out;omega));have HBV:=Lib.hid (secBytes_val l (by omega) (fun s hs=>by have:=HSZ.out s hs;omega) (by have:=HPC.out;omega));clear hn2;go_wp2_with fail;refine (rof13_any A2 n2 c2 w4.heap.size l wr (HR2.out.kp0 HKR.out) HL2.out (fun s hs=>by have:=HSZ.out s hs;omega) (by rw [← HL2.out];have:=HPC.out;omega) HKR.out.size).mono ?_;rintro e w5 ⟨hk5,⟨hr,_⟩ | ⟨_,r,At,Ab,ct,cb,n',M,rfl,hrs⟩⟩
     ·rw [HRI.out] at hr;cases hr
     obtain ⟨bs,hbs⟩:∃ bs,secBytes l=bs:=⟨_,rfl⟩;rw [hbs] at hrs HBLN HBV;have HK5:=Lib.hid (HKR.out.trans hk5);have HT5:=Lib.hid (HT4.out.kp0 HK5.out);have HBL:=Lib.hid hrs.nb;have hMb:M≤10000000:=by rw [← HBL.out];exact HBLN.out
     have hMc:M≤cb:=hrs.nc;have HCR:=Lib.hid hrs.cells.2;have HRB:=Lib.hid (show Rd w5 w5.heap.size Ab (bs.map (.int .u8)) from hrs.rb)
     have HM0:=Lib.hid (show 0 < M from by
      rw [← HBL.out,← hbs];unfold secBytes
      split
      ·simp [fourI]
      ·unfold secB secR;simp [fourI])
     obtain ⟨ab,rfl⟩:∃ ab,Ab=some ab:=by
      cases Ab with
      | none =>
        have h9:=HRB.out.none_nil;have h8:bs=[]:=by simpa using h9
        have h7:=HBL.out;have h6:=HM0.out;rw [h8] at h7
        simp at h7
        omega
      | some ab=>exact ⟨ab,rfl⟩
     clear hk5 hrs hbs HR2 HL2 HSZ HPC HSY HRI HBLN hcr2 HKR;go_wp2_with fail
     go_loopw [9] (fun x wr=>∃ k:Nat,x=.int .i64 (k:Int)∧k≤M+1∧Hid (Kp [] w5 wr)) (fun x _=>M+1 - (intOf x).toNat)
     case atStart=>exact ⟨0,rfl,by omega,Lib.hid (Kp.refl _ _)⟩
     case round =>
      obtain ⟨k,rfl,hk,HKQ⟩:=hrel;have hc1:wr.cell? ⟨r,1,none⟩=some (.slice (some ab) M cb):=HKQ.out.cell HCR.out (by simp);by_cases hkM:k≤M
      ·have hkd:decide ((k:Int)≤(M:Int))=true:=by simp;omega
       have hkc:k≤cb:=by omega
       have hk0:(0:Int)≤(k:Int):=by omega
       have HTL:=Lib.hid (show (bs.take k).length=k by rw [List.length_take,HBL.out];omega);have HTV:=Lib.hid (show ∀ x ∈ bs.take k,0≤x∧x≤255 from fun x hx=>by have:=HBV.out x (List.mem_of_mem_take hx);omega);have HTR:=Lib.hid (show Rd w5 w5.heap.size (some ab) ((bs.take k).map (.int .u8)) from by rw [List.map_take];exact HRB.out.take k);go_wp2_with fail;refine (sectionreads_any (some ab) k cb (bs.take k) ⟨#[97]⟩ 1 wr ((HTR.out.kp0 HKQ.out).bound HKQ.out.size) HTL.out hkc HTV.out (by decide) (by omega) (by omega) (HT5.out.kp0 HKQ.out)).mono ?_;rintro e w6 ⟨rfl,hk6⟩;have HK6:=Lib.hid (HKQ.out.trans hk6);clear hk6 hc1;have hc1:w6.cell? ⟨r,1,none⟩=some (.slice (some ab) M cb):=HK6.out.cell HCR.out (by simp);have HTLM:=Lib.hid (show ((bs.take k).map (Value.int .u8)).length=k * 1 by rw [List.length_map,HTL.out,Nat.mul_one]);have HTR6:=Lib.hid (show Rd (w6.alloc (.cells #[.int .u8 7] 5)) w5.heap.size (some ab) ((bs.take k).map (.int .u8)) from (HTR.out.kp0 HK6.out).kp0 ((Kp.refl [] _).alloc _))
       go_wp2_with (at_builtin;go_loud (refine wpList_append_full (by rfl) (.tmp 117) (.tmp 118) 41 rfl 5 ib (.int .u8 0) 1 1 Tryz.underlying41 hib hb1 hb2 hb3 rfl (by decide) ab k k _ _ ((bs.take k).map (.int .u8)) [.int .u8 7] rfl HTLM.out HTR6.out ⟨w6.heap.size,0,none⟩ 1 1 rfl rfl (Rd.new w6 #[.int .u8 7] 5 (0,0)) (by omega) (by unfold maxLen;omega) (by omega) ?_);intro v7 w7 hown7 hk7;obtain ⟨A7,c7,rfl,hc7,_⟩:=own_form hown7)
       have HK7:=Lib.hid ((HK6.out.alloc (.cells #[.int .u8 7] 5)).trans hk7);have HR7:=Lib.hid (show Rd w7 w7.heap.size A7 ((bs.take k ++ [7]).map (.int .u8)) from by rw [List.map_append];exact own_rd hown7);have HL7:=Lib.hid (show (bs.take k ++ [7]).length=k+1 by rw [List.length_append,HTL.out];rfl)
       have HV7:=Lib.hid (show ∀ x ∈ bs.take k ++ [7],0≤x∧x≤255 from fun x hx=>by
        rcases List.mem_append.1 hx with h | h
        ·exact HTV.out x h
        ·rw [List.mem_singleton.1 h];omega)
       clear hown7 hk7 HTR6 HTLM hc1;refine (sectionreads_any A7 (k+1) c7 (bs.take k ++ [7]) ⟨#[]⟩ 2 w7 HR7.out HL7.out hc7 HV7.out (by decide) (by omega) (by omega) (HT5.out.kp0 HK7.out)).mono ?_;rintro e w8 ⟨rfl,hk8⟩;have HK8:=Lib.hid (HK7.out.trans hk8);clear hk8 HR7 HL7 HV7 HK6 HK7 HKQ HTL HTV HTR;go_wp2_with fail;obtain ⟨w9,hw9⟩:∃ w9,w9=w8.alloc (.cells #[.int .u8 1,.int .u8 128,.int .u8 255] 5):=⟨_,rfl⟩;obtain ⟨ah,hah⟩:∃ ah:Addr,ah=⟨w8.heap.size,0,none⟩:=⟨_,rfl⟩;rw [← hw9,← hah];have hk9:Kp [] w8 w9:=by rw [hw9];exact (Kp.refl [] w8).alloc _
       have HY3:=Lib.hid (show Rd w9 w9.heap.size (some ah) (([1,128,255]:List Int).map (.int .u8)) from by
        have h1:=Rd.new w8 #[.int .u8 1,.int .u8 128,.int .u8 255] 5 (0,0);rw [← hw9,← hah] at h1
        exact Rd.bound (show Rd w9 (w8.heap.size+1) (some ah) (([1,128,255]:List Int).map (.int .u8)) from h1) (by rw [hw9];simp))
       have HK9:=Lib.hid (HK8.out.trans hk9);clear hw9 hah hk9 HK8 hkd
       go_loopw [125] (fun x wr=>∃ j:Nat,x=.int .i64 (j:Int)∧j≤3∧Hid (Kp [] w9 wr)) (fun x _=>3 - (intOf x).toNat)
       case atStart=>exact ⟨0,rfl,by omega,Lib.hid (Kp.refl _ _)⟩
       case round =>
        obtain ⟨j,rfl,hj,HKJ⟩:=hrel;have HKE:=Lib.hid (HK9.out.trans HKJ.out);have hc1:wr.cell? ⟨r,1,none⟩=some (.slice (some ab) M cb):=HKE.out.cell HCR.out (by simp);by_cases hj3:j < 3
        ·have hjd:decide ((j:Int) < 3)=true:=by simp;omega
         have hj0:(0:Int)≤(j:Int):=by omega
         have hj1:(j:Int) < 3:=by omega
         obtain ⟨y,hy⟩:∃ y,([1,128,255]:List Int)[j]? = some y:=⟨_,List.getElem?_eq_getElem (show j < ([1,128,255]:List Int).length from hj3)⟩;obtain ⟨ah',e',_,hcy⟩:=(HY3.out.kp0 HKJ.out).at_ (i:=j) (u:=.int .u8 y) (by rw [List.getElem?_map,hy];rfl);injection e' with e'
         subst e'
         have hyv:0≤y∧y < 256:=by
          have h1:=List.mem_of_getElem? hy
          simp at h1
          omega
         obtain ⟨Y,rfl⟩:∃ Y:Nat,y=(Y:Int):=⟨y.toNat,by omega⟩;clear hy;by_cases hkM2:k=M
         ·have hkd2:((k:Int) == (M:Int))=true:=by simp;omega
          go_wp2_with fail;exact ⟨⟨k+1,by go_num,by omega,HKE⟩,by simp [intOf];omega⟩
         ·have hkd2:((k:Int) == (M:Int))=false:=by simp;omega
          have hkMl:k < M:=by omega
          have hkMi:(k:Int) < (M:Int):=by omega
          have HLL:=Lib.hid (show (bs.map (Value.int .u8)).length=M * 1 by rw [List.length_map,HBL.out,Nat.mul_one]);have HRA:=Lib.hid (show Rd (wr.alloc (.cells #[] 5)) _ (some ab) (bs.map (.int .u8)) from (HRB.out.kp0 HKE.out).kp0 ((Kp.refl [] _).alloc _));have hc1a:(wr.alloc (.cells #[] 5)).cell? ⟨r,1,none⟩=some (.slice (some ab) M cb):=((Kp.refl [] wr).alloc _).cell hc1 (by simp)
          go_wp2_with (at_builtin;go_loud (refine wpList_append_rd rfl (.tmp 136) (.tmp 140) 41 rfl wr.heap.size 5 ib (.int .u8 0) 1 1 Tryz.underlying41 hib hb1 hb2 hb3 rfl (by decide) (.slice (some ⟨wr.heap.size,0,none⟩) 0 0) 0 [] rfl (own_nilE wr) _ _ M cb (bs.map (.int .u8)) rfl HLL.out HRA.out (oc_u8 _) (by unfold maxLen;omega) (by omega) (by simp) ?_);intro v10 w10 hown10 hgrow10 hat10
                       rw [Nat.zero_add,List.nil_append] at hown10;obtain ⟨A10,c10,rfl,hc10,_⟩:=own_form hown10;have hk10:Kp [] wr w10:=((Kp.refl [] wr).alloc _).grown hgrow10 (fun x hx=>.inr (by simp [Value.ownBlock] at hx;omega));obtain ⟨g,u,rfl,hu,hcx,hfx,hput⟩:=own_putf hown10 hkMl;obtain ⟨ag,hag⟩:∃ ag:Addr,ag=⟨g,0,none⟩:=⟨_,rfl⟩
                       have hak:(⟨g,k,none⟩:Addr)=ag.add k:=by
                        rw [hag];unfold Addr.add;by_cases h:k=0
                        ·rw [if_pos h,h]
                        ·rw [if_neg h,Nat.zero_add]
                       rw [hak] at hcx hfx
                       have HPUT:=Lib.hid (show ∀ z,(w10.setCell (ag.add k) z).ownsRow wr.heap.size 5 1 (.slice (some ag) M c10) M ((bs.map (Value.int .u8)).set k z)∧Kp [] wr (w10.setCell (ag.add k) z) from fun z=>by
                        rw [← hak,hag];refine ⟨hput z,hk10.trans' ((Kp.refl [g] w10).setCell (p:=⟨g,k,none⟩) (.inl (by simp)) z) (fun x hx=>.inr ?_)⟩;rw [List.mem_singleton.1 hx]
                        exact (own_ge hown10 (g:=g) rfl).1)
                       have HC10:=Lib.hid hc10;have HU:=Lib.hid hu;rw [← hag]
                       clear hown10 hgrow10 hat10 hk10 hput hu hak hag hc10)
          obtain ⟨X,hX,hXl,hXu⟩:∃ X:Nat,u=.int .u8 (X:Int)∧X < 256∧bs[k]? = some (X:Int):=by
           have h1:=HU.out;rw [List.getElem?_map] at h1
           cases h2:bs[k]? with
           | none=>rw [h2] at h1;cases h1
           | some x =>
             rw [h2] at h1;injection h1 with h1
             have h3:=HBV.out x (List.mem_of_getElem? h2);exact ⟨x.toNat,by rw [← h1,Int.toNat_of_nonneg h3.1],by omega,by rw [Int.toNat_of_nonneg h3.1]⟩
          subst hX;have hYl:Y < 256:=by omega
          obtain ⟨Z,hZ⟩:∃ Z,Z=X ^^^ Y:=⟨_,rfl⟩;have hxor:bits .xor .u8 (X:Int) (Y:Int)=(Z:Int):=by rw [hZ];exact (xor_u8 hXl hYl).1
          have hZl:Z < 256:=by rw [hZ];exact (xor_u8 hXl hYl).2
          have hxr:(binOp BinOp.xor 5 (.int .u8 (X:Int)) (.int .u8 (Y:Int))).run Tryz.prog w10=.ok (.int .u8 (Z:Int)) w10:=by
           rw [← hxor]
           kernel_rfl
          clear hZ hc1a HRA HLL HU hXu hxor;go_wp2_with fail;rw [hxr];clear hxr;go_wp2_with fail;obtain ⟨w11,hw11⟩:∃ w11,w11=w10.setCell (ag.add k) (.int .u8 (Z:Int)):=⟨_,rfl⟩;have hp:=HPUT.out (.int .u8 (Z:Int));rw [← hw11] at hp ⊢;have HR11:=Lib.hid (show Rd w11 w11.heap.size (some ag) ((bs.set k (Z:Int)).map (.int .u8)) from by rw [List.map_set];exact own_rd hp.1);have HK11:=Lib.hid (HKE.out.trans hp.2);have HK11b:=Lib.hid (HKJ.out.trans hp.2);have HL11:=Lib.hid (show (bs.set k (Z:Int)).length=M by rw [List.length_set,HBL.out])
          have HV11:=Lib.hid (show ∀ x ∈ bs.set k (Z:Int),0≤x∧x≤255 from fun x hx=>by
           rcases List.mem_or_eq_of_mem_set hx with h | h
           ·have:=HBV.out x h;omega
           ·rw [h];omega)
          clear hw11 hp HPUT hcx hfx;refine (sectionreads_any (some ag) M c10 (bs.set k (Z:Int)) ⟨#[97,98]⟩ 3 w11 HR11.out HL11.out HC10.out HV11.out (by decide) (by omega) (by omega) (HT5.out.kp0 HK11.out)).mono ?_;rintro e w12 ⟨rfl,hk12⟩;have HK12:=Lib.hid (HK11b.out.trans hk12);clear hk12 HR11 HL11 HV11;go_wp2_with fail;exact ⟨⟨j+1,by go_num,by omega,HK12⟩,by simp [intOf];omega⟩
        ·have hjd:decide ((j:Int) < 3)=false:=by simp;omega
         go_wp2_with fail;exact ⟨⟨k+1,by go_num,by omega,HKE⟩,by simp [intOf];omega⟩
      ·have hkd:decide ((k:Int)≤(M:Int))=false:=by simp;omega
       have HLL:=Lib.hid (show (bs.map (Value.int .u8)).length=M * 1 by rw [List.length_map,HBL.out,Nat.mul_one]);have HRA:=Lib.hid (HRB.out.kp0 HKQ.out);have hc1a:(wr.alloc (.cells #[] 5)).cell? ⟨r,1,none⟩=some (.slice (some ab) M cb):=((Kp.refl [] wr).alloc _).cell hc1 (by simp);have HB2:=Lib.hid (show (bs ++ bs).length=M+M by rw [List.length_append,HBL.out])
       have HV2:=Lib.hid (show ∀ x ∈ bs ++ bs,0≤x∧x≤255 from fun x hx=>by
        have h1:x ∈ bs:=(List.mem_append.1 hx).elim id id;have:=HBV.out x h1
        omega)
       go_wp2_with fail
       go_region_law
        (first
         | (refine step_append_rd rfl (.tmp 155) (.tmp 159) 41 rfl wr.heap.size 5 ib (.int .u8 0) 1 1 Tryz.underlying41 hib hb1 hb2 hb3 rfl (by decide) (.slice (some ⟨wr.heap.size,0,none⟩) 0 0) 0 [] (by rfl) (by first | exact own_nilE wr | exact own_kp0 (own_nilE wr) (Kp.refl _ _).drew | exact own_kp0 (own_nilE wr) (Kp.refl _ _).drew.drew | exact own_kp0 (own_nilE wr) (Kp.refl _ _).drew.drew.drew) _ _ M cb (bs.map (.int .u8)) (by rfl) HLL.out (HRA.out.kp0 (show Kp [] wr _ from by first | exact (Kp.refl _ _).alloc _ | exact ((Kp.refl _ _).alloc _).drew | exact ((Kp.refl _ _).drew.alloc _) | exact ((Kp.refl _ _).drew.alloc _).drew | exact ((Kp.refl _ _).drew.drew.alloc _) | exact ((Kp.refl _ _).alloc _).drew.drew)) (oc_u8 _) (by unfold maxLen;omega) (by omega) (by simp) ?_
            intro v10 w10 hown10 hgrow10 hat10;rw [Nat.zero_add,List.nil_append] at hown10;obtain ⟨A10,c10,rfl,_⟩:=own_form hown10;have hk10:Kp [] wr w10:=(show Kp [] wr _ from by first | exact (Kp.refl _ _).alloc _ | exact ((Kp.refl _ _).alloc _).drew | exact ((Kp.refl _ _).drew.alloc _) | exact ((Kp.refl _ _).drew.alloc _).drew | exact ((Kp.refl _ _).drew.drew.alloc _) | exact ((Kp.refl _ _).alloc _).drew.drew).grown hgrow10 (fun x hx=>.inr (by simp [Value.ownBlock] at hx;omega));have HO10:Hid (w10.ownsRow wr.heap.size 5 1 (.slice A10 M c10) M (bs.map (.int .u8))):=Lib.hid hown10;have HK10:Hid (Kp [] wr w10):=Lib.hid hk10;have hc10:w10.cell? ⟨r,1,none⟩=some (.slice (some ab) M cb):=hk10.cell hc1 (by simp)
            clear hown10 hgrow10 hat10 hk10)
         | (refine step_append_rd rfl (.tmp 160) (.tmp 164) 41 rfl wr.heap.size 5 ib (.int .u8 0) 1 1 Tryz.underlying41 hib hb1 hb2 hb3 rfl (by decide) (.slice A10 M c10) M (bs.map (.int .u8)) (by rfl) (own_kp0 HO10.out (show Kp [] w10 _ from by first | exact Kp.refl _ _ | exact (Kp.refl _ _).drew | exact (Kp.refl _ _).drew.drew)) _ _ M cb (bs.map (.int .u8)) (by rfl) HLL.out (HRA.out.kp0 (show Kp [] wr _ from by first | exact HK10.out | exact HK10.out.drew | exact HK10.out.drew.drew)) (oc_u8 _) (by unfold maxLen;omega) (by omega) HK10.out.size ?_
            intro v11 w11 hown11 hgrow11 hat11;obtain ⟨A11,c11,rfl,hle11,_⟩:=own_form hown11;have hk11:Kp [] wr w11:=HK10.out.trans' ((show Kp (ownL (.slice A10 M c10)) w10 _ from by first | exact Kp.refl _ _ | exact (Kp.refl _ _).drew | exact (Kp.refl _ _).drew.drew).grown hgrow11 (fun x hx=>.inl (mem_ownL.2 hx))) (fun x hx=>.inr (own_ge HO10.out (mem_ownL.1 hx)).1);have HR11:Hid (Rd w11 w11.heap.size A11 ((bs ++ bs).map (.int .u8))):=Lib.hid (by rw [List.map_append];exact own_rd hown11);have HC11:Hid (M+M≤c11):=Lib.hid hle11;have HK11:Hid (Kp [] wr w11):=Lib.hid hk11
            clear hown11 hgrow11 hat11 hk11 hle11)
         | (go_simp
            go_at_call 5
            refine (sectionreads_any A11 (M+M) c11 (bs ++ bs) ⟨#[97]⟩ 2 _ ((HR11.out.kp0 (show Kp [] w11 _ from by first | exact Kp.refl _ _ | exact (Kp.refl _ _).drew | exact (Kp.refl _ _).drew.drew)).bound (by first | exact Nat.le_refl _ | simp)) HB2.out HC11.out HV2.out (by decide) (by omega) (by omega) ((HT5.out.kp0 HKQ.out).kp0 (show Kp [] wr _ from by first | exact HK11.out | exact HK11.out.drew | exact HK11.out.drew.drew))).mono ?_;rintro e w12 ⟨rfl,hk12⟩;have HK12:Hid (Kp [] wr w12):=Lib.hid ((show Kp [] wr _ from by first | exact HK11.out | exact HK11.out.drew | exact HK11.out.drew.drew).trans hk12)
            clear hk12))
       all_goals
        go_wp2_with fail;exact ⟨⟨i+1,by go_num,by omega,Lib.hid (HK5.out.trans (HKQ.out.trans HK12.out))⟩,by simp [intOf];omega⟩
    ·have hid':decide ((i:Int) < 5)=false:=by simp;omega
     have HKW:=Lib.hid (HK.out.trans HKR.out);have HTW:=Lib.hid (HT.out.kp0 HKW.out);obtain ⟨wy,hwy⟩:∃ wy,wy=wr:=⟨_,rfl⟩;rw [← hwy] at HKW HTW ⊢;clear hwy HKR HROWS HT4 HK;go_wp2_with fail
     go_loopw [13,14] (fun v x wr=>∃ (k c:Nat) (A:Option Addr),v=.slice A k c∧x=.int .i64 (k:Int)∧k≤65537∧Hid (wr.ownsRow wy.heap.size 9 1 (.slice A k c) k ((manyS k).map .string))∧Hid (Kp [] wy wr)) (fun _ x _=>65537 - (intOf x).toNat)
     case atStart=>exact ⟨0,0,none,rfl,rfl,by omega,Lib.hid (World.ownsRow_nil _ _ _ 1),Lib.hid (Kp.refl _ _)⟩
     case round =>
      obtain ⟨k,c,A,rfl,rfl,hk,HO,HKR⟩:=hrel;by_cases hk6:k≤65536
      ·have hkd:decide ((k:Int)≤65536)=true:=by simp;omega
       obtain ⟨w1,hw1⟩:∃ w1,w1=wr.alloc (.cells #[.int .u8 ((k:Int) / 65536),.int .u8 ((k:Int) / 256 % 256),.int .u8 ((k:Int) % 256)] 5):=⟨_,rfl⟩;have hk1:Kp [] wr w1:=by rw [hw1];exact (Kp.refl [] wr).alloc _
       have hcv:(convert 41 9 (.slice (some ⟨wr.heap.size,0,none⟩) 3 3)).run Tryz.prog (wr.alloc (.cells #[.int .u8 ((k:Int) / 65536),.int .u8 ((k:Int) / 256 % 256),.int .u8 ((k:Int) % 256)] 5))=.ok (.string (mS k)) w1:=by
        rw [hw1];exact run_strN _ _ 3 3 _ [k / 65536,k / 256 % 256,k % 256] rfl (by intro x hx;simp at hx;omega) (Rd.new wr #[.int .u8 ((k:Int) / 65536),.int .u8 ((k:Int) / 256 % 256),.int .u8 ((k:Int) % 256)] 5 (0,0))
       have HO1:=Lib.hid (own_kp0 HO.out hk1);have HK1:=Lib.hid (HKR.out.trans hk1);have HZ1:=Lib.hid HK1.out.size;clear hw1 hk1
       go_wp2_with (at_builtin;go_loud (refine wpList_append_rd rfl (.tmp 172) (.tmp 183) 22 rfl (wy.heap.size) 9 i0 (.string ⟨#[]⟩) 1 16 Tryz.underlying22 hi0 hz0 hz1 hz2 rfl (by decide) (.slice A k c) (k) _ rfl (own_kp0 HO1.out ((Kp.refl [] _).alloc _)) _ _ 1 1 [.string (mS k)] rfl rfl (Rd.new w1 #[.string (mS k)] 9 (0,0)) (by intro u hu;simp at hu;subst hu;rfl) (by unfold maxLen;omega) (by omega) (by have:=HZ1.out;simp;omega) ?_);intro v2 w2 hown2 hgrow2 hat2;obtain ⟨hka2,hga2⟩:=app_facts hgrow2 hat2;obtain ⟨A2',c2',rfl,_⟩:=own_form hown2)
       exact ⟨⟨k+1,c2',A2',rfl,by go_num,by omega,Lib.hid (by rw [manyS_succ,List.map_append];exact hown2),Lib.hid (HK1.out.trans' hka2 (fun x hx=>.inr (own_ge HO1.out (mem_ownL.1 hx)).1))⟩,by simp [intOf];omega⟩
      ·have hkd:decide ((k:Int)≤65536)=false:=by simp;omega
       have HRD:=Lib.hid (own_rd HO.out);have HT1:=Lib.hid (HTW.out.kp0 HKR.out);have HKE:=Lib.hid (HKW.out.trans HKR.out);go_wp2_with fail;refine (sof_long A k c _ (manyS k) wr HRD.out (manyS_len k) (by omega) (by omega) (manyS_rise (by omega))).mono ?_;rintro e w1 ⟨rfl,hk1⟩;have HK1:=Lib.hid (HKE.out.trans hk1);clear hk1;go_wp2_with fail;refine (none13_any w1).mono ?_;rintro e w2 ⟨rfl,hk2⟩;have HK2:=Lib.hid (HK1.out.trans hk2);clear hk2;go_wp2_with fail;refine (awake_s w2 (HT.out.kp0 HK2.out)).mono ?_;rintro e w3 ⟨rfl,hk3⟩;go_wp2_with fail;go_ret;exact ⟨rfl,HK2.out.trans hk3⟩
end Go.Proofs.YtanacapkfllbnaaGreatDoor
