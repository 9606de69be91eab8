/-
  LAYER 6 (alpha): Get: a text out of a reader's bits.
  CONDITIONS: a code, a reader in memory that lie apart.
-/
import Derived.Test.YtanacapkfllbnaaGreatDoorR14
import Derived.Test.YtanacapkfllbnaaGreatDoorR32
import Derived.Laws.IdiomStrings
import Derived.Lib.BufferRead
import Derived.Deep.RegionLaw
set_option maxRecDepth 100000
set_option maxHeartbeats 4000000
namespace Go.Proofs.YtanacapkfllbnaaGreatDoor
open Go.RowKit

def strN (l:List Nat):ByteArray:=⟨(l.map UInt8.ofNat).toArray⟩
theorem run_strN (w:World) (A:Option Addr) (m c B:Nat) (l:List Nat) (hm:l.length=m) (hl:∀ x ∈ l,x < 256) (hr:Rd w B A (l.map fun (x:Nat)=>.int .u8 (x:Int))) :
  (convert 41 9 (.slice A m c)).run Tryz.prog w=.ok (.string (strN l)) w:=by
 cases A with
 | none =>
   obtain rfl:=hr.none_nil
   simp at hm
   subst hm;exact Lib.run_convert_nil_bytes w _ _ _ c Tryz.underlying41 Tryz.underlying5 Tryz.underlying9
 | some a =>
   have e:m=(l.map UInt8.ofNat).length:=by rw [List.length_map,hm]
   rw [e];refine run_convert_bytes_back w _ _ _ a c (l.map UInt8.ofNat) Tryz.underlying41 Tryz.underlying5 Tryz.underlying9 (fun j hj=>?_);have hj':j < l.length:=by simpa using hj
   obtain ⟨ad,h1,_,h2⟩:=hr.at_ (i:=j) (u:=.int .u8 ((l[j]:Nat):Int)) (by rw [List.getElem?_map,List.getElem?_eq_getElem hj'];rfl);injection h1 with h1
   subst h1;rw [h2,List.getElem_map];have:=hl l[j] (List.getElem_mem hj');rw [UInt8.toNat_ofNat']
   congr 2
   omega
def getF (T:CT) (bs:List Bool) (a:Nat) (bad:Bool):List Nat × Int × Nat × Bool:=if bad then ([],4,0,true) else getC T T [] (bs.drop a)
theorem rNum_at {bs:List Bool} {a:Nat} {b:Bool} (h:bs[a]? = some b):rNum bs a false 1=(if b then 1 else 0,a+1,false):=by
 have hl:=(List.getElem?_eq_some_iff.1 h).1;unfold rNum;rw [if_neg (by simp;omega)]
 have e:(bs.drop a).take (1:Int).toNat=[b]:=by
  rw [List.drop_eq_getElem_cons hl,(List.getElem?_eq_some_iff.1 h).2];rfl
 rw [e]
 cases b <;> rfl
theorem rNum_end {bs:List Bool} {a:Nat} (h:bs.length≤a):rNum bs a false 1=(0,a,true):=by
 unfold rNum;rw [if_pos (by omega)]
def GetI (F:List Nat × Int × Nat × Bool) (T cur:CT) (o:List Nat) (l:List Bool) (j:Nat):Prop:=
 F=((getC T cur o l).1,(getC T cur o l).2.1,(getC T cur o l).2.2.1+j,(getC T cur o l).2.2.2)
theorem GetI.start (T:CT) (bs:List Bool) (a:Nat):GetI (getF T bs a false) T T [] (bs.drop a) 0:=by unfold GetI getF;simp
theorem GetI.stop {F:List Nat × Int × Nat × Bool} {T cur:CT} {o:List Nat} {j:Nat} (h:GetI F T cur o [] j):F=([],4,j,true):=by unfold GetI at h;rw [h,getC_nil,Nat.zero_add]
theorem GetI.none {F:List Nat × Int × Nat × Bool} {T cur:CT} {o:List Nat} {b:Bool} {l:List Bool} {j:Nat} (h:GetI F T cur o (b :: l) j) (hk:cur.kid b=.nil):F=([],13,j+1,false):=by unfold GetI at h;rw [h,getC_none hk,Nat.add_comm]
theorem GetI.fin {F:List Nat × Int × Nat × Bool} {T cur:CT} {o:List Nat} {b:Bool} {l:List Bool} {j:Nat} (h:GetI F T cur o (b :: l) j) (hk:cur.kid b=.leaf 0):F=(o,0,j+1,false):=by unfold GetI at h;rw [h,getC_end hk,Nat.add_comm]
theorem GetI.leaf {F:List Nat × Int × Nat × Bool} {T cur:CT} {o:List Nat} {b:Bool} {l:List Bool} {j s:Nat} (h:GetI F T cur o (b :: l) j) (hk:cur.kid b=.leaf (s+1)):GetI F T T (o ++ [s]) l (j+1):=by
 unfold GetI at h ⊢;rw [h,getC_leaf hk];simp [Nat.add_assoc,Nat.add_comm]
theorem GetI.node {F:List Nat × Int × Nat × Bool} {T cur x y:CT} {o:List Nat} {b:Bool} {l:List Bool} {j:Nat} (h:GetI F T cur o (b :: l) j) (hk:cur.kid b=.node x y):GetI F T (.node x y) o l (j+1):=by
 unfold GetI at h ⊢;rw [h,getC_node hk];simp [Nat.add_assoc,Nat.add_comm]
def GetP (rp q a:Nat) (F:List Nat × Int × Nat × Bool) (w:World) (e:Ending) (w':World):Prop:=e=.returned (.tuple #[.string (strN F.1),.int .i64 F.2.1])∧RdM w' rp q (a+F.2.2.1) F.2.2.2∧Kp [rp] w w'
theorem Tryz.info_au8:(Tryz.prog.info? 5).map (fun i=>(i.zero,i.size,i.bytes))=some (some (.int .u8 0),1,1):=by kernel_rfl
theorem cget_any (lo hi p rp q a N:Nat) (S:List Nat) (bad cc:Bool) (bs:List Bool) (T:CT) (sg:List Nat) (ls:List Int) (w:World) (h:CodeM w lo hi p T sg ls) (hr:RdM w rp q a bad) (hv:VecM w S q bs cc) (hN:bs.length=N) (ha:a≤N) (hrS:rp ∉ S) (hN24:N≤16777216) (hhi:hi≤rp) :
  Calls Tryz.prog 162 #[.pointer (some ⟨p,0,none⟩),.pointer (some ⟨rp,0,none⟩)] w (GetP rp q a (getF T bs a bad) w):=by
 obtain ⟨i0,hi0,hz0,hz1,hz2⟩:=info_parts Tryz.info_au8;have HC:=Lib.hid h;have HR:=Lib.hid hr;have HV:=Lib.hid hv;have HN:=Lib.hid hN;have HRS:=Lib.hid hrS;have hrw:rp < w.heap.size:=hr.lt;have HHI:=Lib.hid (show ∀ g ∈ [rp],g < lo ∨ hi≤g from fun g hg=>.inr (by rw [List.mem_singleton.1 hg];exact hhi));obtain ⟨g0,hroot,hn0⟩:=h.root;have HN0:=Lib.hid hn0;clear h hr hv hN hrS hn0
 go_enter Tryz.func162,Tryz.ntmps162
 go_wp2_with fail;refine (cthere_any lo hi p T sg ls w HC.out).mono ?_;rintro e w1 ⟨rfl,rfl⟩
 cases bad with
 | true =>
   have HNX:=Lib.hid (rnext_any S rp q a N true bs cc w HR.out HV.out HN.out ha HRS.out);rw [show rNum bs a true 1=(0,a,true) from by unfold rNum;rw [if_pos (.inl rfl)]] at HNX;go_wp2_with fail
   go_loopw [6,7] (fun v x wr=>v=.slice none 0 0∧x=.pointer (some ⟨g0,0,none⟩)∧w=wr) (fun _ _ _=>0)
   case atStart=>exact ⟨rfl,rfl,rfl⟩
   case round =>
    obtain ⟨rfl,rfl,rfl⟩:=hrel;go_wp2_with fail;refine HNX.out.mono ?_;rintro e w2 ⟨rfl,hr2,hk2⟩;have HR2:=Lib.hid hr2;have HK2:=Lib.hid hk2;clear hr2 hk2;go_wp2_with fail;refine (rerr_any rp q a true w2 HR2.out).mono ?_;rintro e w3 ⟨rfl,rfl⟩;rw [show errB true=4 from rfl];go_wp2_with fail;go_ret2;exact ⟨rfl,HR2.out,HK2.out⟩
 | false =>
   go_wp2_with fail
   go_loopw [6,7] (fun v x wr=>∃ (j m c:Nat) (A:Option Addr) (o:List Nat) (x1 x2:CT) (g:Nat),v=.slice A m c∧x=.pointer (some ⟨g,0,none⟩)∧a+j≤N∧m≤j∧Hid (o.length=m∧∀ y ∈ o,y < 256)∧Hid (∃ l,T.sub l=.node x1 x2)∧Hid (NodeM wr lo hi (.node x1 x2) (.pointer (some ⟨g,0,none⟩)))∧Hid (GetI (getF T bs a false) T (.node x1 x2) o (bs.drop (a+j)) j)∧Hid (RdM wr rp q (a+j) false)∧Hid (wr.ownsRow w.heap.size 5 1 (.slice A m c) m (o.map fun (y:Nat)=>.int .u8 (y:Int)))∧Hid (Kp [rp] w wr)) (fun _ _ wr=>N - (match wr.cell? ⟨rp,2,none⟩ with | some v=>(intOf v).toNat | none=>0))
   case atStart =>
    obtain ⟨ta,tb,e⟩:=HC.out.1.node;exact ⟨0,0,0,none,[],ta,tb,g0,rfl,rfl,by omega,by omega,Lib.hid ⟨rfl,by simp⟩,Lib.hid ⟨[],by rw [CT.sub_nil];exact e⟩,Lib.hid (by rw [← e];exact HN0.out),Lib.hid (by have:=GetI.start T bs a;rw [e] at this ⊢;exact this),HR,Lib.hid (World.ownsRow_nil w _ _ _),Lib.hid (Kp.refl _ _)⟩
   case round =>
    obtain ⟨j,m,c,A,o,x1,x2,g,rfl,rfl,haj,hmj,HO,HSUB,HNM,HG,HRR,HOW,HK⟩:=hrel;have hVS:∀ x ∈ S,x ∉ [rp]:=fun x hx hm=>HRS.out (by rw [← List.mem_singleton.1 hm];exact hx)
    have HNX:=Lib.hid (rnext_any S rp q (a+j) N false bs cc wr HRR.out (HV.out.kp HK.out hVS) HN.out haj HRS.out);have hrel0:wr.cell? ⟨rp,2,none⟩=some (.int .i64 ((a+j:Nat):Int)):=HRR.out.cells.2.2;by_cases hend:N≤a+j
    ·rw [rNum_end (by rw [HN.out];exact hend)] at HNX
     have HF:=Lib.hid (show getF T bs a false=([],4,j,true) from by
      have:=HG.out;rw [List.drop_of_length_le (by rw [HN.out];exact hend)] at this
      exact this.stop)
     clear hVS hrel0;go_wp2_with fail;refine HNX.out.mono ?_;rintro e w2 ⟨rfl,hr2,hk2⟩;have HR2:=Lib.hid hr2;have HK2:=Lib.hid (HK.out.trans hk2);clear hr2 hk2;go_wp2_with fail;refine (rerr_any rp q (a+j) true w2 HR2.out).mono ?_;rintro e w3 ⟨rfl,rfl⟩;rw [show errB true=4 from rfl];go_wp2_with fail;go_ret2;rw [HF.out];exact ⟨rfl,HR2.out,HK2.out⟩
    ·obtain ⟨b,hb⟩:∃ b,bs[a+j]? = some b:=⟨_,List.getElem?_eq_getElem (by rw [HN.out];omega)⟩
     have HD:=Lib.hid (show bs.drop (a+j)=b :: bs.drop (a+j+1) from by
      obtain ⟨h1,h2⟩:=List.getElem?_eq_some_iff.1 hb
      rw [List.drop_eq_getElem_cons h1,h2])
     rw [HD.out] at HG;have HBIT:=Lib.hid hb;obtain ⟨g',va,vb,eg,hlo,hgi,hblk,hna,hnb⟩:=HNM.out;injection eg with eg
     injection eg with eg
     injection eg with eg
     subst eg;have hgr:∀ x,lo≤x→x < hi→x ∉ [rp]:=fun x h1 h2 hm=>by rcases HHI.out x hm with h | h <;> omega
     have HBL:=Lib.hid hblk;have HNA:=Lib.hid (And.intro hna hnb);have HGR:=Lib.hid hgr;have hgx:=hgr g hlo hgi;have HGX:=Lib.hid hgx;have hlt:a+j+1≤N:=by omega
     have HREL:=Lib.hid hrel0;clear hVS hb HD hblk hna hnb hgr hgx hlo hgi HNM hend hrel0
     cases b with
     | false =>
       have HNY:=Lib.hid HNX.out;rw [rNum_at HBIT.out,if_neg (by decide),show ((0:Nat) == 1)=false from rfl] at HNY;clear HNX;go_wp2_with fail;refine HNY.out.mono ?_;rintro e w2 ⟨rfl,hr2,hk2⟩;have HR2:=Lib.hid (show RdM w2 rp q (a+(j+1)) false from hr2);have HK2:=Lib.hid (HK.out.trans hk2);have hb2:=HBL.out.kp hk2 HGX.out;have hc2:w2.cell? ⟨g,0,none⟩=some va:=by rw [hb2.cell];rfl
       have HKD:=Lib.hid ((And.left HNA.out).kp hk2 HHI.out);have HO2:=Lib.hid (show w2.ownsRow w.heap.size 5 1 (.slice A m c) m (o.map fun (y:Nat)=>.int .u8 (y:Int)) from own_kp HOW.out hk2 (fun x hx hm=>by have:=(own_ge HOW.out hx).1;have:=List.mem_singleton.1 hm;omega));have HM2:=Lib.hid (show w2.cell? ⟨rp,2,none⟩=some (.int .i64 ((a+(j+1):Nat):Int)) from HR2.out.cells.2.2);have HC2:=Lib.hid (HC.out.kp HK2.out HHI.out);clear hr2 hk2 hb2 HNY HOW HRR HK HBL HNA;go_wp2_with fail;refine (rerr_any rp q (a+(j+1)) false w2 HR2.out).mono ?_;rintro e w3 ⟨rfl,rfl⟩;rw [show errB false=0 from rfl]
       cases hx:x1 with
       | nil =>
         have HF:=Lib.hid (HG.out.none (show (CT.node x1 x2).kid false=.nil from by show x1.sub []=_;rw [CT.sub_nil];exact hx));have hkv:va=.pointer none:=by have:=HKD.out;rw [hx] at this;exact this
         clear hx;rw [hkv] at hc2;go_wp2_with fail;go_ret2;rw [HF.out];exact ⟨rfl,HR2.out,HK2.out⟩
       | leaf s =>
         have hkd:=HKD.out;rw [hx] at hkd;obtain ⟨gk,hkv,hlk,hik,hbk⟩:=hkd;rw [hkv] at hc2;have hl2:w2.cell? ⟨gk,2,none⟩=some (.int .i64 (s:Int)):=by rw [hbk.cell];rfl
         have hl3:w2.cell? ⟨gk,3,none⟩=some (.bool true):=by rw [hbk.cell];rfl
         cases s with
         | zero =>
           have HF:=Lib.hid (HG.out.fin (show (CT.node x1 x2).kid false=.leaf 0 from by show x1.sub []=_;rw [CT.sub_nil];exact hx));rw [show ((0:Nat):Int)=0 from rfl] at hl2;have hcv:=run_strN w2 A m c _ o HO.out.1 HO.out.2 (own_rd HO2.out);clear hx hbk;go_wp2_with fail;go_ret2;rw [HF.out];exact ⟨rfl,HR2.out,HK2.out⟩
         | succ s =>
           have HG2:=Lib.hid (HG.out.leaf (show (CT.node x1 x2).kid false=.leaf (s+1) from by show x1.sub []=_;rw [CT.sub_nil];exact hx));obtain ⟨g9,hc9,hn9⟩:=HC2.out.root;obtain ⟨ta,tb,eT⟩:=HC2.out.1.node
           have hs255:s≤255:=by
            obtain ⟨l,h⟩:=HSUB.out;have h1:T.sub (l ++ [false])=.leaf (s+1):=by rw [CT.sub_app,h];show x1.sub []=_;rw [CT.sub_nil];exact hx
            have h2:=(word_sub HC2.out.1).2 h1;have:=HC2.out.1.2.2.2.1 _ (word_mem HC2.out.1 h2);omega
           obtain ⟨s1,hs1⟩:∃ s1,s1=s+1:=⟨_,rfl⟩;rw [← hs1] at hl2;have hs10:((s1:Int) == 0)=false:=by simp;omega
           have hm1:m+1≤maxLen:=by unfold maxLen;omega
           have hm2:(m+1) * 1≤140737488355328:=by omega
           have HZ2:=Lib.hid (show w.heap.size≤(w2.alloc (.cells #[.int .u8 (s:Int)] 5)).drew.heap.size from by have:=HK2.out.size;simp;omega);have hw1:IntKind.i64.wrap ((s1:Int) - 1)=(s:Int):=by rw [IntKind.wrap_i64];omega
           have hw2:IntKind.u8.wrap (s:Int)=(s:Int):=by
            simp only [IntKind.wrap,IntKind.signed,IntKind.bits]
            simp
            omega
           have HPX:=Lib.hid (show p ∉ ownL (.slice A m c)∧gk ∉ ownL (.slice A m c)∧rp ∉ ownL (.slice A m c) from by
            have hcp:=HC2.out.2.2.1
            refine ⟨fun h=>?_,fun h=>?_,fun h=>?_⟩ <;> (have:=(own_ge HO2.out (mem_ownL.1 h)).1;omega))
           have hc9a:(w2.alloc (.cells #[.int .u8 (s:Int)] 5)).cell? ⟨p,0,none⟩=some (.pointer (some ⟨g9,0,none⟩)):=((Kp.refl [] w2).alloc _).cell hc9 (by simp);clear hx hbk hs1;go_wp2_with fail
           go_region_law
            ((refine step_append_rd rfl (.tmp 52) (.tmp 59) 41 rfl w.heap.size 5 i0 (.int .u8 0) 1 1 Tryz.underlying41 hi0 hz0 hz1 hz2 rfl (by decide) (.slice A m c) m (o.map fun (y:Nat)=>.int .u8 (y:Int)) (by rfl) (own_kp0 HO2.out (show Kp [] w2 (w2.alloc (.cells #[.int .u8 (s:Int)] 5)).drew from ((Kp.refl _ _).alloc _).drew)) (w2.heap.size+1) (some ⟨w2.heap.size,0,none⟩) 1 1 [.int .u8 (s:Int)] (by rfl) (by rfl) (show Rd (w2.alloc (.cells #[.int .u8 (s:Int)] 5)).drew _ _ _ from Rd.new w2 #[.int .u8 (s:Int)] 5 (0,0)) (by intro u hu;simp at hu;subst hu;rfl) hm1 hm2 HZ2.out ?_)
             intro v3 w3 hown3 hgrow3 hat3;obtain ⟨A3,c3,rfl,_⟩:=own_form hown3;have hk3:Kp (ownL (.slice A m c)) w2 w3:=((Kp.refl _ _).alloc _).drew.grown hgrow3 (fun x hx=>.inl (mem_ownL.2 hx));have hc93:w3.cell? ⟨p,0,none⟩=some (.pointer (some ⟨g9,0,none⟩)):=hk3.cell hc9 HPX.out.1;have HX3:=Lib.hid (And.intro hown3 hk3)
             clear hown3 hgrow3 hat3 hk3)
           all_goals
            obtain ⟨hown3,hk3⟩:=HX3.out;have hge:∀ x ∈ ownL (.slice A m c),w.heap.size≤x:=fun x hx=>(own_ge HO2.out (mem_ownL.1 hx)).1
            have HR3:=Lib.hid (HR2.out.kp hk3 HPX.out.2.2);have HN3:=Lib.hid (show NodeM w3 lo hi (.node ta tb) (.pointer (some ⟨g9,0,none⟩)) from by rw [← eT];exact hn9.kp hk3 (fun x hx=>.inr (by have:=hge x hx;omega)));have HO3:=Lib.hid (show w3.ownsRow w.heap.size 5 1 (.slice A3 (m+1) c3) (m+1) ((o ++ [s]).map fun (y:Nat)=>.int .u8 (y:Int)) from by rw [List.map_append];exact hown3);have HK3:=Lib.hid (HK2.out.trans' hk3 (fun x hx=>.inr (hge x hx)));have HG3:=Lib.hid (show GetI (getF T bs a false) T (.node ta tb) (o ++ [s]) (bs.drop (a+j+1)) (j+1) from by rw [← eT];exact HG2.out);have HS3:=Lib.hid (show ∃ l,T.sub l=.node ta tb from ⟨[],by rw [CT.sub_nil];exact eT⟩);have HM3:=Lib.hid (show w3.cell? ⟨rp,2,none⟩=some (.int .i64 ((a+(j+1):Nat):Int)) from HR3.out.cells.2.2)
            have HOO:=Lib.hid (show (o ++ [s]).length=m+1∧∀ y ∈ o ++ [s],y < 256 from ⟨by rw [List.length_append,HO.out.1];rfl,fun y hy=>by
             rcases List.mem_append.1 hy with h | h
             ·exact HO.out.2 y h
             ·rw [List.mem_singleton.1 h];omega⟩)
            clear hown3 hk3 hge hw1 hw2 hn9 hc9 hc93 hc9a eT;go_simp;go_wp2_with fail;refine ⟨⟨j+1,m+1,c3,A3,o ++ [s],ta,tb,g9,rfl,rfl,by omega,by omega,HOO,HS3,HN3,HG3,HR3,HO3,HK3⟩,?_⟩;rw [HREL.out,HM3.out];simp only [intOf]
            omega
       | node y1 y2 =>
         have hkd:=HKD.out;rw [hx] at hkd;have HKN:=Lib.hid hkd;obtain ⟨gk,v1,v2,hkv,hlk,hik,hbk,_⟩:=hkd;rw [hkv] at hc2 HKN;have hl3:w2.cell? ⟨gk,3,none⟩=some (.bool false):=by rw [hbk.cell];rfl
         have HS2:=Lib.hid (show ∃ l,T.sub l=.node y1 y2 from by
          obtain ⟨l,h⟩:=HSUB.out
          exact ⟨l ++ [false],by rw [CT.sub_app,h];show x1.sub []=_;rw [CT.sub_nil];exact hx⟩)
         have HG2:=Lib.hid (HG.out.node (show (CT.node x1 x2).kid false=.node y1 y2 from by show x1.sub []=_;rw [CT.sub_nil];exact hx));clear hx hbk;go_wp2_with fail;refine ⟨⟨j+1,m,c,A,o,y1,y2,gk,rfl,rfl,by omega,by omega,HO,HS2,HKN,HG2,HR2,HO2,HK2⟩,?_⟩;rw [HREL.out,HM2.out];simp only [intOf]
         omega
     | true =>
       have HNY:=Lib.hid HNX.out;rw [rNum_at HBIT.out,if_pos rfl,show ((1:Nat) == 1)=true from rfl] at HNY;clear HNX;go_wp2_with fail;refine HNY.out.mono ?_;rintro e w2 ⟨rfl,hr2,hk2⟩;have HR2:=Lib.hid (show RdM w2 rp q (a+(j+1)) false from hr2);have HK2:=Lib.hid (HK.out.trans hk2);have hb2:=HBL.out.kp hk2 HGX.out;have hc2:w2.cell? ⟨g,1,none⟩=some vb:=by rw [hb2.cell];rfl
       have HKD:=Lib.hid ((And.right HNA.out).kp hk2 HHI.out);have HO2:=Lib.hid (show w2.ownsRow w.heap.size 5 1 (.slice A m c) m (o.map fun (y:Nat)=>.int .u8 (y:Int)) from own_kp HOW.out hk2 (fun x hx hm=>by have:=(own_ge HOW.out hx).1;have:=List.mem_singleton.1 hm;omega));have HM2:=Lib.hid (show w2.cell? ⟨rp,2,none⟩=some (.int .i64 ((a+(j+1):Nat):Int)) from HR2.out.cells.2.2);have HC2:=Lib.hid (HC.out.kp HK2.out HHI.out);clear hr2 hk2 hb2 HNY HOW HRR HK HBL HNA;go_wp2_with fail;refine (rerr_any rp q (a+(j+1)) false w2 HR2.out).mono ?_;rintro e w3 ⟨rfl,rfl⟩;rw [show errB false=0 from rfl]
       cases hx:x2 with
       | nil =>
         have HF:=Lib.hid (HG.out.none (show (CT.node x1 x2).kid true=.nil from by show x2.sub []=_;rw [CT.sub_nil];exact hx));have hkv:vb=.pointer none:=by have:=HKD.out;rw [hx] at this;exact this
         clear hx;rw [hkv] at hc2;go_wp2_with fail;go_ret2;rw [HF.out];exact ⟨rfl,HR2.out,HK2.out⟩
       | leaf s =>
         have hkd:=HKD.out;rw [hx] at hkd;obtain ⟨gk,hkv,hlk,hik,hbk⟩:=hkd;rw [hkv] at hc2;have hl2:w2.cell? ⟨gk,2,none⟩=some (.int .i64 (s:Int)):=by rw [hbk.cell];rfl
         have hl3:w2.cell? ⟨gk,3,none⟩=some (.bool true):=by rw [hbk.cell];rfl
         cases s with
         | zero =>
           have HF:=Lib.hid (HG.out.fin (show (CT.node x1 x2).kid true=.leaf 0 from by show x2.sub []=_;rw [CT.sub_nil];exact hx));rw [show ((0:Nat):Int)=0 from rfl] at hl2;have hcv:=run_strN w2 A m c _ o HO.out.1 HO.out.2 (own_rd HO2.out);clear hx hbk;go_wp2_with fail;go_ret2;rw [HF.out];exact ⟨rfl,HR2.out,HK2.out⟩
         | succ s =>
           have HG2:=Lib.hid (HG.out.leaf (show (CT.node x1 x2).kid true=.leaf (s+1) from by show x2.sub []=_;rw [CT.sub_nil];exact hx));obtain ⟨g9,hc9,hn9⟩:=HC2.out.root;obtain ⟨ta,tb,eT⟩:=HC2.out.1.node
           have hs255:s≤255:=by
            obtain ⟨l,h⟩:=HSUB.out;have h1:T.sub (l ++ [true])=.leaf (s+1):=by rw [CT.sub_app,h];show x2.sub []=_;rw [CT.sub_nil];exact hx
            have h2:=(word_sub HC2.out.1).2 h1;have:=HC2.out.1.2.2.2.1 _ (word_mem HC2.out.1 h2);omega
           obtain ⟨s1,hs1⟩:∃ s1,s1=s+1:=⟨_,rfl⟩;rw [← hs1] at hl2;have hs10:((s1:Int) == 0)=false:=by simp;omega
           have hm1:m+1≤maxLen:=by unfold maxLen;omega
           have hm2:(m+1) * 1≤140737488355328:=by omega
           have HZ2:=Lib.hid (show w.heap.size≤(w2.alloc (.cells #[.int .u8 (s:Int)] 5)).drew.heap.size from by have:=HK2.out.size;simp;omega);have hw1:IntKind.i64.wrap ((s1:Int) - 1)=(s:Int):=by rw [IntKind.wrap_i64];omega
           have hw2:IntKind.u8.wrap (s:Int)=(s:Int):=by
            simp only [IntKind.wrap,IntKind.signed,IntKind.bits]
            simp
            omega
           have HPX:=Lib.hid (show p ∉ ownL (.slice A m c)∧gk ∉ ownL (.slice A m c)∧rp ∉ ownL (.slice A m c) from by
            have hcp:=HC2.out.2.2.1
            refine ⟨fun h=>?_,fun h=>?_,fun h=>?_⟩ <;> (have:=(own_ge HO2.out (mem_ownL.1 h)).1;omega))
           have hc9a:(w2.alloc (.cells #[.int .u8 (s:Int)] 5)).cell? ⟨p,0,none⟩=some (.pointer (some ⟨g9,0,none⟩)):=((Kp.refl [] w2).alloc _).cell hc9 (by simp);clear hx hbk hs1;go_wp2_with fail
           go_region_law
            ((refine step_append_rd rfl (.tmp 52) (.tmp 59) 41 rfl w.heap.size 5 i0 (.int .u8 0) 1 1 Tryz.underlying41 hi0 hz0 hz1 hz2 rfl (by decide) (.slice A m c) m (o.map fun (y:Nat)=>.int .u8 (y:Int)) (by rfl) (own_kp0 HO2.out (show Kp [] w2 (w2.alloc (.cells #[.int .u8 (s:Int)] 5)).drew from ((Kp.refl _ _).alloc _).drew)) (w2.heap.size+1) (some ⟨w2.heap.size,0,none⟩) 1 1 [.int .u8 (s:Int)] (by rfl) (by rfl) (show Rd (w2.alloc (.cells #[.int .u8 (s:Int)] 5)).drew _ _ _ from Rd.new w2 #[.int .u8 (s:Int)] 5 (0,0)) (by intro u hu;simp at hu;subst hu;rfl) hm1 hm2 HZ2.out ?_)
             intro v3 w3 hown3 hgrow3 hat3;obtain ⟨A3,c3,rfl,_⟩:=own_form hown3;have hk3:Kp (ownL (.slice A m c)) w2 w3:=((Kp.refl _ _).alloc _).drew.grown hgrow3 (fun x hx=>.inl (mem_ownL.2 hx));have hc93:w3.cell? ⟨p,0,none⟩=some (.pointer (some ⟨g9,0,none⟩)):=hk3.cell hc9 HPX.out.1;have HX3:=Lib.hid (And.intro hown3 hk3)
             clear hown3 hgrow3 hat3 hk3)
           all_goals
            obtain ⟨hown3,hk3⟩:=HX3.out;have hge:∀ x ∈ ownL (.slice A m c),w.heap.size≤x:=fun x hx=>(own_ge HO2.out (mem_ownL.1 hx)).1
            have HR3:=Lib.hid (HR2.out.kp hk3 HPX.out.2.2);have HN3:=Lib.hid (show NodeM w3 lo hi (.node ta tb) (.pointer (some ⟨g9,0,none⟩)) from by rw [← eT];exact hn9.kp hk3 (fun x hx=>.inr (by have:=hge x hx;omega)));have HO3:=Lib.hid (show w3.ownsRow w.heap.size 5 1 (.slice A3 (m+1) c3) (m+1) ((o ++ [s]).map fun (y:Nat)=>.int .u8 (y:Int)) from by rw [List.map_append];exact hown3);have HK3:=Lib.hid (HK2.out.trans' hk3 (fun x hx=>.inr (hge x hx)));have HG3:=Lib.hid (show GetI (getF T bs a false) T (.node ta tb) (o ++ [s]) (bs.drop (a+j+1)) (j+1) from by rw [← eT];exact HG2.out);have HS3:=Lib.hid (show ∃ l,T.sub l=.node ta tb from ⟨[],by rw [CT.sub_nil];exact eT⟩);have HM3:=Lib.hid (show w3.cell? ⟨rp,2,none⟩=some (.int .i64 ((a+(j+1):Nat):Int)) from HR3.out.cells.2.2)
            have HOO:=Lib.hid (show (o ++ [s]).length=m+1∧∀ y ∈ o ++ [s],y < 256 from ⟨by rw [List.length_append,HO.out.1];rfl,fun y hy=>by
             rcases List.mem_append.1 hy with h | h
             ·exact HO.out.2 y h
             ·rw [List.mem_singleton.1 h];omega⟩)
            clear hown3 hk3 hge hw1 hw2 hn9 hc9 hc93 hc9a eT;go_simp;go_wp2_with fail;refine ⟨⟨j+1,m+1,c3,A3,o ++ [s],ta,tb,g9,rfl,rfl,by omega,by omega,HOO,HS3,HN3,HG3,HR3,HO3,HK3⟩,?_⟩;rw [HREL.out,HM3.out];simp only [intOf]
            omega
       | node y1 y2 =>
         have hkd:=HKD.out;rw [hx] at hkd;have HKN:=Lib.hid hkd;obtain ⟨gk,v1,v2,hkv,hlk,hik,hbk,_⟩:=hkd;rw [hkv] at hc2 HKN;have hl3:w2.cell? ⟨gk,3,none⟩=some (.bool false):=by rw [hbk.cell];rfl
         have HS2:=Lib.hid (show ∃ l,T.sub l=.node y1 y2 from by
          obtain ⟨l,h⟩:=HSUB.out
          exact ⟨l ++ [true],by rw [CT.sub_app,h];show x2.sub []=_;rw [CT.sub_nil];exact hx⟩)
         have HG2:=Lib.hid (HG.out.node (show (CT.node x1 x2).kid true=.node y1 y2 from by show x2.sub []=_;rw [CT.sub_nil];exact hx));clear hx hbk;go_wp2_with fail;refine ⟨⟨j+1,m,c,A,o,y1,y2,gk,rfl,rfl,by omega,by omega,HO,HS2,HKN,HG2,HR2,HO2,HK2⟩,?_⟩;rw [HREL.out,HM2.out];simp only [intOf]
         omega
end Go.Proofs.YtanacapkfllbnaaGreatDoor
