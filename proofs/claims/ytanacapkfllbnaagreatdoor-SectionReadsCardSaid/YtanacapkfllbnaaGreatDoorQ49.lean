/-
  The document's layer 13: Read.
  LAYER 13 (section): SectionReads, the walk.
  CONDITIONS: as each lemma says.
-/
import Derived.Test.YtanacapkfllbnaaGreatDoorQ47
import Derived.Test.YtanacapkfllbnaaGreatDoorQ48
import Derived.Test.YtanacapkfllbnaaGreatDoorQ46
import Derived.Test.YtanacapkfllbnaaGreatDoorQ07
set_option maxRecDepth 100000
set_option maxHeartbeats 4000000
namespace Go.Proofs.YtanacapkfllbnaaGreatDoor
open Go.RowKit

theorem RsM.low {w:World} {lo lo' hi r ct cb n m:Nat} {ts:List ByteArray} {At Ab:Option Addr} {bs:List Int} (h:RsM w lo hi r ts At Ab ct cb n m bs) (hl:lo'≤lo):RsM w lo' hi r ts At Ab ct cb n m bs:=
  ⟨h.blk,h.rt,h.rb,⟨Nat.le_trans hl h.bf.1,h.bf.2⟩,fun ad e=>Nat.le_trans hl (h.bt ad e),fun ad e=>Nat.le_trans hl (h.bb ad e),h.nt,h.nb,h.nc⟩
def Rread13P (b:List Int) (w:World) (e:Ending) (w':World):Prop:=Kp [] w w'∧((secRead b=none∧e=.returned (.tuple #[.pointer none,.int .i64 0,.int .i64 4])) ∨
  (∃ ts,secRead b=some ts∧∃ (r:Nat) (At Ab:Option Addr) (ct cb n m:Nat),e=.returned (.tuple #[.pointer (some ⟨r,0,none⟩),.int .i64 (m:Int),.int .i64 0])∧RsM w' w.heap.size w'.heap.size r ts At Ab ct cb n m (secBytes ts)))
theorem rread13_any (A:Option Addr) (n c B:Nat) (b:List Int) (w:World) (hx:Rd w B A (b.map (.int .u8))) (hn:b.length=n) (hc:n≤c) (hn9:n≤1000000000) (hv:∀ x ∈ b,0≤x∧x≤255) (hfit:FitB b) :
    Calls Tryz.prog 24 #[.slice A n c] w (Rread13P b w):=by
  have HX:=Lib.hid hx;have HFIT:=Lib.hid hfit;have HN:=Lib.hid hn;clear hn;have HV:=Lib.hid hv;clear hv;clear hx hfit
  go_enter Tryz.func24,Tryz.ntmps24
  go_wp2_with fail;refine (rtexts13_any A n c B b w HX.out HN.out hc hn9 HV.out HFIT.out).mono ?_;rintro e w2 ⟨hk2,⟨hno,v,rfl⟩ | ⟨ts,A2,n2,c2,hyes,rfl,hr2,hl2⟩⟩
  · have HK2:=Lib.hid hk2;have HNO:=Lib.hid (secRead_none hno);clear hk2 hno;go_wp2_with fail
    go_ret3
    exact ⟨HK2.out,.inl ⟨HNO.out,rfl⟩⟩
  have HK2:=Lib.hid hk2;obtain ⟨f1,f2,f3,f4⟩:=HFIT.out.res ts hyes;have HFR:=Lib.hid (And.intro f1 (And.intro f2 (And.intro f3 f4)));have HYES:=Lib.hid hyes;have HR2:=Lib.hid hr2;have HL2:=Lib.hid hl2;replace HX:=Lib.hid (HX.out.kp0 hk2);clear hk2 f1 f2 f3 f4 hyes hr2 hl2;go_wp2_with fail;refine (rof13_any A2 n2 c2 _ ts w2 HR2.out HL2.out HFR.out.2.2.1 (by rw [← HL2.out];exact HFR.out.2.2.2) (Nat.le_refl _)).mono ?_;rintro e w3 ⟨hk3,⟨hr,_⟩ | ⟨_,r,At,Ab,ct,cb,n',m,rfl,hrs⟩⟩
  · rw [HFR.out.1] at hr;cases hr
  have HK3:=Lib.hid (HK2.out.trans hk3);replace HX:=Lib.hid (HX.out.kp0 hk3);have HRS:=Lib.hid (hrs.low HK2.out.size);have hc1:=hrs.cells.2;have HC1:=Lib.hid hc1;have HBL:=Lib.hid hrs.nb;have HRB:=Lib.hid hrs.rb;clear hk3 hrs;by_cases hmn:n < m
  · have hd:decide ((n:Int) < (m:Int))=true:=by simp;omega
    have HNO:=Lib.hid (secRead_no HYES.out (fun e=>by have h1:=congrArg List.length e;rw [HBL.out,List.length_take,HN.out] at h1;omega));go_wp2_with fail
    go_ret3
    exact ⟨HK3.out,.inl ⟨HNO.out,rfl⟩⟩
  have hd:decide ((n:Int) < (m:Int))=false:=by simp;omega
  go_wp2_with fail;clear hc1
  go_loopw [9] (fun x wr=>∃ k:Nat,x=.int .i64 (k:Int)∧k≤m∧Hid (b.take k=(secBytes ts).take k)∧Hid (Kp [] w3 wr)) (fun x _=>m - (intOf x).toNat)
  case atStart=>exact ⟨0,rfl,by omega,Lib.hid (by simp),Lib.hid (Kp.refl _ _)⟩
  case round =>
    obtain ⟨k,rfl,hk,HE,HKR⟩:=hrel;have hc1:wr.cell? ⟨r,1,none⟩=some (.slice Ab m cb):=HKR.out.cell HC1.out (by simp);by_cases hlt:k < m
    · obtain ⟨x,hx⟩:∃ x,(secBytes ts)[k]? = some x:=⟨_,List.getElem?_eq_getElem (by rw [HBL.out];exact hlt)⟩;obtain ⟨y,hy⟩:∃ y,b[k]? = some y:=⟨_,List.getElem?_eq_getElem (by rw [HN.out];omega)⟩;obtain ⟨ad,rfl,_,hcx⟩:=(HRB.out.kp0 HKR.out).at_ (i:=k) (u:=.int .u8 x) (by rw [List.getElem?_map,hx];rfl);obtain ⟨ad2,rfl,_,hcy⟩:=(HX.out.kp0 HKR.out).at_ (i:=k) (u:=.int .u8 y) (by rw [List.getElem?_map,hy];rfl);have hb0:(0:Int)≤(k:Int):=by omega
      have hb1:(k:Int) < (m:Int):=by omega
      have hb2:(k:Int) < (n:Int):=by omega
      have HXK:=Lib.hid hx;have HYK:=Lib.hid hy;clear hx hy;by_cases hxy:x=y
      · subst hxy;have HE2:=Lib.hid (show b.take (k + 1)=(secBytes ts).take (k + 1) from by rw [List.take_add_one,List.take_add_one,HE.out,HXK.out,HYK.out]);go_wp2_with fail
        go_quiet (fail)
        go_wp2_with fail;exact ⟨⟨k + 1,by go_num,by omega,HE2,Lib.hid (HKR.out.drewN _)⟩,by simp [intOf];omega⟩
      · have hxe:(x == y)=false:=by simpa using hxy
        have hxe2:(x != y)=true:=by simpa using hxy
        have HNO:=Lib.hid (secRead_no HYES.out (fun e=>by
          have h1:=congrArg (fun l=>l[k]?) e;have h1:(b.take (secBytes ts).length)[k]? = (secBytes ts)[k]? := h1;rw [List.getElem?_take,if_pos (by rw [HBL.out];exact hlt),HXK.out,HYK.out] at h1;injection h1 with h1
          exact hxy h1.symm))
        have HKE:=Lib.hid (HK3.out.trans HKR.out);clear hxy;go_wp2_with fail
        go_quiet (fail)
        go_wp2_with fail
        go_ret3
        exact ⟨HKE.out.drewN _,.inl ⟨HNO.out,rfl⟩⟩
    · obtain rfl:k=m:=by omega
      have HY:=Lib.hid (secRead_yes HYES.out (by
        have h1:=HE.out;rw [List.take_of_length_le (l:=secBytes ts) (by rw [HBL.out];exact Nat.le_refl _)] at h1;rw [HBL.out]
        exact h1))
      have HKE:=Lib.hid (HK3.out.trans HKR.out);go_wp2_with fail
      go_quiet (fail)
      go_wp2_with fail
      go_ret3
      have hkd:Kp [] w3 (wr.drewN nq):=HKR.out.drewN nq;have h9:=HRS.out.kp0 hkd;refine ⟨HKE.out.drewN _,.inr ⟨ts,HY.out,r,At,Ab,ct,cb,n',k,rfl,?_⟩⟩;exact ⟨h9.blk,h9.rt.bound hkd.size,h9.rb.bound hkd.size,⟨h9.bf.1,Nat.lt_of_lt_of_le h9.bf.2 hkd.size⟩,h9.bt,h9.bb,h9.nt,h9.nb,h9.nc⟩
theorem Rd.lent8 {w:World} {g:Nat} {l more:List Int} (h:Blk w g 5 ((l ++ more).map (.int .u8))):Rd w w.heap.size (some ⟨g,0,none⟩) (l.map (.int .u8)):=by
  have:=(h.rd h.lt).take (l.map (Value.int .u8)).length
  rwa [List.map_append,List.take_left'] at this
  rfl
theorem sectionreads_any (A0:Option Addr) (n c0:Nat) (b:List Int) (t:ByteArray) (i:Int) (w:World) (h0:Rd w w.heap.size A0 (b.map (.int .u8))) (hn:b.length=n) (hc:n≤c0) (hv:∀ x ∈ b,0≤x∧x≤255) (ht':t.size≤140737488351232) (hi1:-9223372036854775808≤i) (hi2:i≤9223372036854775807) (ht:Tab64 w) :
    Calls Tryz.prog 5 #[.slice A0 n c0,.string t,.int .i64 i] w fun e w'=>e=.returned (.bool true)∧Kp [] w w':=by
  have HX:=Lib.hid h0;clear h0;have HN:=Lib.hid hn;clear hn;have HV:=Lib.hid hv;clear hv;have HT:=Lib.hid ht;clear ht
  go_enter Tryz.func5,Tryz.ntmps5
  by_cases h3:3000 < n
  · have hzd:decide ((3000:Int) < (n:Int))=true:=by simp;omega
    go_wp2_with fail;refine (awake_s w HT.out).mono ?_;rintro e w1 ⟨rfl,hk1⟩;go_wp2_with fail;go_ret;exact ⟨rfl,hk1⟩
  have hzd:decide ((3000:Int) < (n:Int))=false:=by simp;omega
  by_cases h9:900 < t.size
  · have hzd2:decide ((900:Int) < (t.size:Int))=true:=by simp;omega
    go_wp2_with fail;refine (awake_s w HT.out).mono ?_;rintro e w1 ⟨rfl,hk1⟩;go_wp2_with fail;go_ret;exact ⟨rfl,hk1⟩
  have hzd2:decide ((900:Int) < (t.size:Int))=false:=by simp;omega
  have ht9:t.size≤900:=by omega
  have hn3:n≤3000:=by omega
  have HFIT:=Lib.hid (fitB_small (b:=b) (by rw [HN.out];exact hn3));go_wp2_with fail;clear hzd hzd2 h3 h9 ht';refine (lentB A0 n c0 _ b w HX.out HN.out (by omega)).mono ?_;rintro e w1 ⟨rfl,hk1,hb1⟩;obtain ⟨g,hg⟩:∃ g,w.heap.size=g:=⟨_,rfl⟩;rw [hg] at hb1 ⊢;have HG:=Lib.hid hg;have HB:=Lib.hid hb1;have HK1:=Lib.hid hk1;have HT1:=Lib.hid (HT.out.kp0 hk1);have HGT:=Lib.hid (show 0 < g from by rw [← hg];exact HT.out.lt);replace HX:=Lib.hid (HX.out.kp0 hk1);clear hk1 hb1 hg;go_wp2_with fail;refine (sread_any (some ⟨g,0,none⟩) n (n + 12) _ b w1 (Rd.lent8 HB.out) HN.out (by omega) HV.out (Nat.le_refl _) HT1.out HFIT.out).mono ?_;intro e w2 hS;obtain ⟨hk2,hcase⟩:=hS;have HCASE:=Lib.hid hcase;have HK2:=Lib.hid hk2;have HT2:=Lib.hid (HT1.out.kp0 hk2);replace HX:=Lib.hid (HX.out.kp0 hk2);have HB2:=Lib.hid (HB.out.kp0 hk2);clear hk2 hcase;have HRO:=Lib.hid (rread13_any A0 n c0 w.heap.size b w2 HX.out HN.out hc (by omega) HV.out HFIT.out);have HWW:=Lib.hid (show g < w1.heap.size from HB.out.lt);rcases HCASE.out with ⟨hno,rfl⟩ | ⟨ts,hyes,S,sp,v,gs,m,c,rfl,hsec,hS,hsp,hgS,hgs,hbl,hm9,hrb⟩
  · have HNO:=Lib.hid hno;clear hno;go_wp2_with fail;refine HRO.out.mono ?_;rintro e w3 ⟨hk3,⟨_,rfl⟩ | ⟨us,hy,_⟩⟩
    · have HK3:=Lib.hid hk3;clear hk3 HRO HCASE;go_wp2_with fail;refine (keptB (some ⟨g,0,none⟩) A0 n (n + 12) c0 _ _ b w3 ((HB2.out.kp0 HK3.out).rd (HB2.out.kp0 HK3.out).lt) (HX.out.kp0 HK3.out) HN.out (by omega) (by omega)).mono ?_;rintro e w4 ⟨rfl,hd4⟩;have HK4:=Lib.hid (HK3.out.trans (hd4.kp []));have HK34:=Lib.hid (hd4.kp []);have HKA:=Lib.hid (HK1.out.trans (HK2.out.trans HK4.out));clear hd4;go_wp2_with fail;refine (overB_some g n (n + 12) _ w4 (HB2.out.kp0 HK4.out) (by rw [List.length_map,List.length_append,HN.out];simp [marksB]) (by omega) (by omega) (by omega)).mono ?_;rintro e w7 ⟨rfl,hk7⟩;have HK7:=Lib.hid hk7;have HT7:=Lib.hid ((HT2.out.kp0 HK4.out).kp hk7 (fun hm=>by have h1:=List.mem_singleton.1 hm;have:=HGT.out;omega));have HKB:=Lib.hid (show Kp [] w w7 from HKA.out.trans' hk7 (fun x hx=>.inr (by rw [List.mem_singleton.1 hx,HG.out];exact Nat.le_refl _)));clear hk7;go_wp2_with fail;refine (awake_s w7 HT7.out).mono ?_;rintro e w8 ⟨rfl,hk8⟩;go_wp2_with fail;go_ret;exact ⟨rfl,HKB.out.trans hk8⟩
    · rw [HNO.out] at hy;cases hy
  · have HYES:=Lib.hid hyes;have HS:=Lib.hid hsec;have HSN:=Lib.hid (show (∀ x ∈ S,w1.heap.size≤x)∧w1.heap.size≤sp∧gs ∉ S∧w1.heap.size≤gs∧gs < w2.heap.size from ⟨hS,hsp,hgS,hgs⟩);have HSL2:=Lib.hid (show ∀ x ∈ S,x < w2.heap.size from hsec.2.1.lt);have HBL:=Lib.hid hbl;have HRB:=Lib.hid hrb
    have HRES:=Lib.hid (show ∀ s ∈ ts,s.size≤30000 from by
      have h1:∃ us,readTx b=some us:=by
        cases h2:readTx b with
        | none=>rw [secRead_none h2] at hyes;cases hyes
        | some us=>exact ⟨us,rfl⟩
      obtain ⟨us,h2⟩:=h1
      have h3:us=ts:=by
        unfold secRead at hyes;rw [h2] at hyes;simp only [Option.bind_some] at hyes
        split at hyes
        · injection hyes
        · cases hyes
      subst h3
      exact (HFIT.out.res us h2).2.2.1)
    clear hyes hsec hS hsp hgS hgs hbl hrb HCASE;go_wp2_with fail;refine HRO.out.mono ?_;rintro e w3 ⟨hk3,⟨hno,_⟩ | ⟨us,hy,r,At,Ab,ct,cb,n',m',rfl,hrs⟩⟩
    · rw [HYES.out] at hno;cases hno
    obtain rfl:ts=us:=by rw [HYES.out] at hy;injection hy
    obtain rfl:m=m':=by rw [← HBL.out,hrs.nb]
    have HK3:=Lib.hid hk3;have HRS:=Lib.hid hrs;clear hk3 hrs hy HRO;go_wp2_with fail;refine (keptB (some ⟨g,0,none⟩) A0 n (n + 12) c0 _ _ b w3 ((HB2.out.kp0 HK3.out).rd (HB2.out.kp0 HK3.out).lt) (HX.out.kp0 HK3.out) HN.out (by omega) (by omega)).mono ?_;rintro e w4 ⟨rfl,hd4⟩;have HK4:=Lib.hid (HK3.out.trans (hd4.kp []));have HK34:=Lib.hid (hd4.kp []);have HKA:=Lib.hid (HK1.out.trans (HK2.out.trans HK4.out));clear hd4;go_wp2_with fail;refine (overB_some g n (n + 12) _ w4 (HB2.out.kp0 HK4.out) (by rw [List.length_map,List.length_append,HN.out];simp [marksB]) (by omega) (by omega) (by omega)).mono ?_;rintro e w7 ⟨rfl,hk7⟩;have HK7:=Lib.hid hk7;have HT7:=Lib.hid ((HT2.out.kp0 HK4.out).kp hk7 (fun hm=>by have h1:=List.mem_singleton.1 hm;have:=HGT.out;omega));have HKB:=Lib.hid (show Kp [] w w7 from HKA.out.trans' hk7 (fun x hx=>.inr (by rw [List.mem_singleton.1 hx,HG.out];exact Nat.le_refl _)));clear hk7
    have HGS:=Lib.hid (show ∀ x ∈ [g],x ∉ S∧(x < w1.heap.size ∨ w2.heap.size≤x)∧x ≠ 0 from fun x hx=>by
      rw [List.mem_singleton.1 hx];refine ⟨fun hm=>?_,.inl HWW.out,fun e=>by have:=HGT.out;omega⟩;have:=HSN.out.1 g hm;have:=HWW.out
      omega)
    have HS7:=Lib.hid ((HS.out.kp0 HK4.out).kp HK7.out HGS.out (fun hm=>by have h1:=List.mem_singleton.1 hm;have h2:=HSN.out.2.1;have h3:=HWW.out;omega));have HRS7:=Lib.hid ((HRS.out.kp0 HK34.out).kp HK7.out (fun x hx=>by rw [List.mem_singleton.1 hx];left;have h3:=HWW.out;have h4:=HK2.out.size;omega))
    have HRB7:=Lib.hid (((HRB.out.kp0 HK4.out).kp_ne HK7.out (fun ad e hm=>by
      injection e with e
      subst e;have h1:=List.mem_singleton.1 hm;have h2:=HSN.out.2.2.2.1;have h3:=HWW.out;simp only at h1
      omega)).bound (Nat.le_trans HK4.out.size HK7.out.size))
    have HH4:=Lib.hid (show w2.heap.size≤w3.heap.size∧w3.heap.size≤w7.heap.size from ⟨HK3.out.size,Nat.le_trans HK34.out.size HK7.out.size⟩);have HSZ2:=Lib.hid (show ∀ x ∈ ts,x.size≤1000000000000 from fun s hs=>by have:=HRES.out s hs;omega);clear HS HRS HRB HB2 HT2 HX;go_wp2_with fail;refine (same13_any t i sp gs m c w2.heap.size w3.heap.size r ct cb n' m At Ab S v ts (secBytes ts) w7 HS7.out HRB7.out HBL.out hm9 HSN.out.2.2.1 (by have h1:=HSN.out.2.2.2.2;have h2:=HH4.out;omega) HRS7.out (fun x hx=>.inl (HSL2.out x hx)) HH4.out.2 (by omega) HSZ2.out hi1 hi2).mono ?_;rintro e w8 ⟨rfl,hk8⟩;have HT8:=Lib.hid (HT7.out.kp hk8 (fun hm=>HS7.out.2.1.tabS _ hm rfl));have HKC:=Lib.hid (show Kp [] w w8 from HKB.out.trans' hk8 (fun x hx=>.inr (Nat.le_trans HK1.out.size (HSN.out.1 x hx))));clear hk8;go_wp2_with fail;refine (awake_s w8 HT8.out).mono ?_;rintro e w9 ⟨rfl,hk9⟩;go_wp2_with fail;go_ret;exact ⟨rfl,HKC.out.trans hk9⟩
end Go.Proofs.YtanacapkfllbnaaGreatDoor
