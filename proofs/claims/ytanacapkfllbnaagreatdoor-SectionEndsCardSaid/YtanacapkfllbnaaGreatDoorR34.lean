/-
  LAYER 6 (alpha): the words of a text; Put, Long.
  CONDITIONS: texts of at most 10^9 bytes.
-/
import Derived.Test.YtanacapkfllbnaaGreatDoorR14
import Derived.Test.YtanacapkfllbnaaGreatDoorR30
import Derived.WalkSpells
import Derived.Deep.RegionLaw
import Derived.WalkLawsBesides
set_option maxRecDepth 100000
set_option maxHeartbeats 4000000
namespace Go.Proofs.YtanacapkfllbnaaGreatDoor
open Go.RowKit

def encT (T:CT) (s:ByteArray):Option (List Bool):=T.enc (sgs (txt s))
def AllP (w:World) (o:Option (List Bool)) (e:Ending) (w':World):Prop:=
 match o with
 | none=>(∃ v,e=.returned (.tuple #[v,.bool false]))∧Kp [] w w'
 | some r=>∃ (A:Option Addr) (m c:Nat),m=r.length∧e=.returned (.tuple #[.slice A m c,.bool true])∧w'.ownsRow w.heap.size 4 1 (.slice A m c) m (r.map .bool)∧Kp [] w w'
theorem gall_any (lo hi p:Nat) (T:CT) (sg:List Nat) (ls:List Int) (s:ByteArray) (w:World) (h:CodeM w lo hi p T sg ls) (hs:s.size≤1000000000) (hhi:hi≤w.heap.size) :
  Calls Tryz.prog 116 #[.pointer (some ⟨p,0,none⟩),.string s] w (AllP w (encT T s)):=by
 obtain ⟨i0,hi0,hz0,hz1,hz2⟩:=info_parts Tryz.info_abool;have heq:=fun (w:World) (A:Option Addr) (n c:Nat)=>Lib.run_eql_slice_nil (P:=Tryz.prog) w 80 4 A n c 0 0 Tryz.underlying80
 have HC:=Lib.hid h;have HHI:=Lib.hid hhi;clear h hhi
 go_enter Tryz.func116,Tryz.ntmps116
 go_wp2_with fail
 go_loopw [4,10] (fun v x wr=>∃ (k m c:Nat) (A:Option Addr) (r:List Bool),x=.int .i64 (k:Int)∧v=.slice A m c∧k≤s.size∧m≤256 * k∧Hid (r.length=m)∧Hid (T.enc (((txt s).take k).map (· + 1))=some r)∧Hid (wr.ownsRow w.heap.size 4 1 (.slice A m c) m (r.map .bool))∧Hid (Kp [] w wr)) (fun _ x _=>s.size - (intOf x).toNat)
 case atStart=>exact ⟨0,0,0,none,[],rfl,rfl,by omega,by omega,Lib.hid rfl,Lib.hid (by simp [CT.enc]),Lib.hid (World.ownsRow_nil w _ _ _),Lib.hid (Kp.refl _ _)⟩
 case round =>
  obtain ⟨k,m,c,A,r,rfl,rfl,hk,hm,HR,HE,HO,HK⟩:=hrel;by_cases hlt:k < s.size
  ·have HT:=Lib.hid (txt_get s k hlt);obtain ⟨x,hx⟩:∃ x,s[k].toNat=x:=⟨_,rfl⟩;have hx255:x≤255:=by rw [← hx];have:=s[k].toNat_lt;omega
   have HTX:=Lib.hid (show (txt s)[k]? = some x from by rw [HT.out,hx]);obtain ⟨v,hc,hv⟩:=(HC.out.kp0 HK.out).cellw (s:=x+1) (by omega);have hk0:(0:Int)≤(k:Int):=by omega
   have hx0:(0:Int)≤(x:Int):=by omega
   have hx1:(x:Int)≤255:=by omega
   obtain ⟨y,hy⟩:∃ y,y=x+1:=⟨_,rfl⟩;rw [← hy] at hc hv;have hx2:(0:Int)≤(y:Int):=by omega
   have hx3:(y:Int) < 257:=by omega
   have HV:=Lib.hid hv;have HY:=Lib.hid hy;have hq:IntKind.i64.wrap (1+(x:Int))=(y:Int):=by rw [IntKind.wrap_i64];omega
   have hq2:IntKind.i64.wrap (x:Int)=(x:Int):=by rw [IntKind.wrap_i64];omega
   have hsm:s.size≤9223372036854775807:=by omega
   clear hv hy HT;go_wp2_with fail
   go_quiet (fail)
   have hk:=(Kp.refl [] wr).drewN nq;have HC1:=Lib.hid (HC.out.kp0 (HK.out.trans hk));have HK1:=Lib.hid (HK.out.trans hk);have HO1:=Lib.hid (own_kp0 HO.out hk);have HV1:=Lib.hid (HV.out.kp hk (by simp));have HSZ:=Lib.hid HK1.out.size;clear hk hc HC HK HO HV;obtain ⟨o,ho⟩:∃ o,o=T.word y:=⟨_,rfl⟩;rw [← ho] at HV1;have HWO:=Lib.hid ho;clear ho;rcases o with _ | u
   ·obtain rfl:v=.slice none 0 0:=HV1.out
    have HN:=Lib.hid (show encT T s=none from by
     refine enc_none (s:=y) ?_ HWO.out.symm;unfold sgs;rw [HY.out]
     exact List.mem_append_left _ (List.mem_map.2 ⟨x,List.mem_of_getElem? HTX.out,rfl⟩))
    go_wp2_with fail;go_ret2;rw [HN.out];exact ⟨⟨_,rfl⟩,HK1.out⟩
   ·obtain ⟨ad,cc,rfl,hcc,hlo,hhi,hru⟩:=HV1.out;have hu:=word_len HC1.out.1 HWO.out.symm;obtain ⟨n,hn⟩:∃ n,n=u.length:=⟨_,rfl⟩;rw [← hn] at hu hcc ⊢;have HUN:=Lib.hid hn;have HRU:=Lib.hid hru
    have HEN:=Lib.hid (show T.enc (((txt s).take (k+1)).map (· + 1))=some (r ++ u) from by
     rw [take_snoc_ HTX.out,List.map_append];refine enc_snoc HE.out ?_
     show T.word (x+1)=some u
     rw [← HY.out]
     exact HWO.out.symm)
    clear hn hru hlo hhi
    go_wp2_with (at_builtin;go_loud (refine wpList_append_rd rfl (.tmp 25) (.tmp 26) 80 rfl w.heap.size 4 i0 (.bool false) 1 1 Tryz.underlying80 hi0 hz0 hz1 hz2 rfl (by decide) (.slice A m c) m _ rfl HO1.out _ (some ad) n cc (u.map .bool) rfl (by rw [List.length_map,HUN.out,Nat.mul_one]) HRU.out (oc_bools _) (by unfold maxLen;omega) (by omega) HSZ.out ?_);intro v3 w3 hown3 hgrow3 hat3;obtain ⟨A3,c3,rfl,_⟩:=own_form hown3)
    have HO3:=Lib.hid (show w3.ownsRow w.heap.size 4 1 (.slice A3 (m+n) c3) (m+n) ((r ++ u).map .bool) from by rw [List.map_append];exact hown3);have HK3:=Lib.hid (HK1.out.trans' ((Kp.refl _ _).grown hgrow3 (fun x hx=>.inl (mem_ownL.2 hx))) (fun x hx=>.inr (own_ge HO1.out (mem_ownL.1 hx)).1));clear hown3 hgrow3 hat3;exact ⟨⟨k+1,m+n,c3,A3,r ++ u,by go_num,rfl,by omega,by omega,Lib.hid (by rw [List.length_append,HR.out,← HUN.out]),HEN,HO3,HK3⟩,by simp [intOf];omega⟩
  ·obtain ⟨v0,hc,hv⟩:=(HC.out.kp0 HK.out).cellw (s:=0) (by omega);rw [Nat.add_zero] at hc
   have HEK:=Lib.hid (show T.enc ((txt s).map (· + 1))=some r from by
    have:=HE.out
    rwa [List.take_of_length_le (by rw [txt_len];omega)] at this)
   have HSZ:=Lib.hid HK.out.size;have HCW:=HC.out.1
   have hpo:p ∉ ownL (.slice A m c):=fun hm=>by
    have:=(own_ge HO.out (mem_ownL.1 hm)).1;have:=HC.out.2.2.1;have:=HHI.out;omega
   have HCT:=Lib.hid HCW;have HPO:=Lib.hid hpo;obtain ⟨o,ho⟩:∃ o,o=T.word 0:=⟨_,rfl⟩;rw [← ho] at hv;have HWO:=Lib.hid ho;clear ho HCW hpo;rcases o with _ | u
   ·obtain rfl:v0=.slice none 0 0:=hv
    have HN:=Lib.hid (show encT T s=none from by
     refine enc_none (s:=0) ?_ HWO.out.symm;unfold sgs
     exact List.mem_append_right _ (by simp))
    go_wp2_with fail
    go_region_law
     (go_loud (refine step_append_rd rfl (.tmp 29) (.tmp 34) 80 rfl w.heap.size 4 i0 (.bool false) 1 1 Tryz.underlying80 hi0 hz0 hz1 hz2 rfl (by decide) (.slice A m c) m (r.map .bool) (by rfl) (own_kp0 HO.out (show Kp [] wr _ from by first | exact Kp.refl _ _ | exact (Kp.refl _ _).drew)) 0 none 0 0 ([]) (by rfl) (rfl) (Rd.nil _ _ _) (by simp) (by unfold maxLen;omega) (by omega) HSZ.out ?_);intro v3 w3 hown3 hgrow3 hat3;obtain ⟨A3,c3,rfl,_⟩:=own_form hown3;have hk3:Kp (ownL (.slice A m c)) wr w3:=(show Kp (ownL (.slice A m c)) wr _ from by first | exact Kp.refl _ _ | exact (Kp.refl _ _).drew).grown hgrow3 (fun x hx=>.inl (mem_ownL.2 hx));have hc3:w3.cell? ⟨p,1,none⟩=some (.slice none 0 0):=hk3.cell hc HPO.out;have H3:=Lib.hid (And.intro hown3 (HK.out.trans' hk3 (fun x hx=>.inr (own_ge HO.out (mem_ownL.1 hx)).1)));clear hown3 hgrow3 hat3 hk3)
    all_goals
     go_wp2_with fail;go_ret2;rw [HN.out];exact ⟨⟨_,rfl⟩,H3.out.2⟩
   ·obtain ⟨ad,cc,rfl,hcc,hlo,hhi2,hru⟩:=hv;have hu:=word_len HCT.out HWO.out.symm;obtain ⟨n,hn⟩:∃ n,n=u.length:=⟨_,rfl⟩;rw [← hn] at hu hcc hc;have HUN:=Lib.hid hn;have HRU:=Lib.hid hru;have HN:=Lib.hid (show encT T s=some (r ++ u) from enc_snoc HEK.out HWO.out.symm);clear hn hru hlo hhi2;go_wp2_with fail
    go_region_law
     (go_loud (refine step_append_rd rfl (.tmp 29) (.tmp 34) 80 rfl w.heap.size 4 i0 (.bool false) 1 1 Tryz.underlying80 hi0 hz0 hz1 hz2 rfl (by decide) (.slice A m c) m (r.map .bool) (by rfl) (own_kp0 HO.out (show Kp [] wr _ from by first | exact Kp.refl _ _ | exact (Kp.refl _ _).drew)) hi (some ad) n cc (u.map .bool) (by rfl) (by rw [List.length_map,HUN.out,Nat.mul_one]) (HRU.out.kp0 (show Kp [] wr _ from by first | exact Kp.refl _ _ | exact (Kp.refl _ _).drew)) (oc_bools _) (by unfold maxLen;omega) (by omega) HSZ.out ?_);intro v3 w3 hown3 hgrow3 hat3;obtain ⟨A3,c3,rfl,_⟩:=own_form hown3;have hk3:Kp (ownL (.slice A m c)) wr w3:=(show Kp (ownL (.slice A m c)) wr _ from by first | exact Kp.refl _ _ | exact (Kp.refl _ _).drew).grown hgrow3 (fun x hx=>.inl (mem_ownL.2 hx));have hc3:w3.cell? ⟨p,1,none⟩=some (.slice (some ad) n cc):=hk3.cell hc HPO.out;have H3:=Lib.hid (And.intro hown3 (HK.out.trans' hk3 (fun x hx=>.inr (own_ge HO.out (mem_ownL.1 hx)).1)));clear hown3 hgrow3 hat3 hk3)
    all_goals
     go_wp2_with fail;go_ret2;rw [HN.out];exact ⟨A3,m+n,c3,by rw [List.length_append,HR.out,← HUN.out],rfl,by rw [List.map_append];exact H3.out.1,H3.out.2⟩
def putE (T:CT) (s:ByteArray) (st:WS):Int:=match encT T s with | none=>2 | some r=>(wPut st r).2
def putS (T:CT) (s:ByteArray) (st:WS):WS:=match encT T s with | none=>st | some r=>wPut st r
theorem encT_len {T:CT} {sg:List Nat} {ls:List Int} (h:CodeT T sg ls) {s:ByteArray} {r:List Bool} (hr:encT T s=some r):r.length≤256 * (s.size+1):=by
 have:=enc_bound h hr;unfold sgs at this
 rwa [List.length_append,List.length_map,txt_len] at this
theorem cput_any (lo hi p q n:Nat) (S:List Nat) (st:WS) (T:CT) (sg:List Nat) (ls:List Int) (s:ByteArray) (w:World) (h:CodeM w lo hi p T sg ls) (hw:WrM w S q st) (hn:st.1.length=n) (hs:s.size≤3000000) (hhi:hi≤w.heap.size) :
  Calls Tryz.prog 68 #[.pointer (some ⟨p,0,none⟩),.pointer (some ⟨q,0,none⟩),.string s] w fun e w'=>e=.returned (.int .i64 (putE T s st))∧WPost w w' S q (putS T s st):=by
 have HC:=Lib.hid h;have HW:=Lib.hid hw;have HN:=Lib.hid hn;have HHI:=Lib.hid hhi;clear h hw hn hhi
 go_enter Tryz.func68,Tryz.ntmps68
 go_wp2_with fail;refine (cthere_any lo hi p T sg ls w HC.out).mono ?_;rintro e w1 ⟨rfl,rfl⟩;go_wp2_with fail;refine (gall_any lo hi p T sg ls s w HC.out (by omega) HHI.out).mono ?_;intro e w1 hp;obtain ⟨o,ho⟩:∃ o,o=encT T s:=⟨_,rfl⟩;rw [← ho] at hp;rcases o with _ | r
 ·have HE:=Lib.hid (show putE T s st=2∧putS T s st=st from by unfold putE putS;rw [← ho];exact ⟨rfl,rfl⟩);obtain ⟨⟨v,rfl⟩,hk⟩:=hp;have HK:=Lib.hid hk;clear hk ho;go_wp2_with fail;go_ret;rw [HE.out.1,HE.out.2];exact ⟨rfl,S,HW.out.kp0 HK.out,HK.out.nil,Grow.refl _ _⟩
 ·have HE:=Lib.hid (show putE T s st=(wPut st r).2∧putS T s st=wPut st r from by unfold putE putS;rw [← ho];exact ⟨rfl,rfl⟩);obtain ⟨A,m,c,hm,rfl,hown,hk⟩:=hp;have hlen:=encT_len HC.out.1 ho.symm;rw [← hm] at hlen;have HM:=Lib.hid hm;have HO:=Lib.hid (own_rd hown);have HK:=Lib.hid hk;clear hk ho hm hown;go_wp2_with fail;refine (wput_any S q n m c _ A r st w1 (HW.out.kp0 HK.out) HN.out HO.out HM.out.symm (by omega)).mono ?_;rintro e w2 ⟨rfl,S',hw',hk',hg'⟩;have H2:=Lib.hid (show WPost w w2 S q (wPut st r) from ⟨S',hw',HK.out.nil.trans hk',fun x hx=>by rcases hg' x hx with h | h;exact .inl h;exact .inr (Nat.le_trans HK.out.size h)⟩);clear hw' hk' hg';go_wp2_with fail;go_ret;rw [HE.out.1,HE.out.2];exact ⟨rfl,H2.out⟩
def longE (T:CT) (s:ByteArray):Int:=match encT T s with | none=>2 | some _=>0
def longN (T:CT) (s:ByteArray):Nat:=match encT T s with | none=>0 | some r=>r.length
theorem clong_any (lo hi p:Nat) (T:CT) (sg:List Nat) (ls:List Int) (s:ByteArray) (w:World) (h:CodeM w lo hi p T sg ls) (hs:s.size≤1000000000) (hhi:hi≤w.heap.size) :
  Calls Tryz.prog 64 #[.pointer (some ⟨p,0,none⟩),.string s] w fun e w'=>e=.returned (.tuple #[.int .i64 (longN T s:Int),.int .i64 (longE T s)])∧Kp [] w w':=by
 have HC:=Lib.hid h;have HHI:=Lib.hid hhi;clear h hhi
 go_enter Tryz.func64,Tryz.ntmps64
 go_wp2_with fail;refine (cthere_any lo hi p T sg ls w HC.out).mono ?_;rintro e w1 ⟨rfl,rfl⟩;go_wp2_with fail;refine (gall_any lo hi p T sg ls s w HC.out hs HHI.out).mono ?_;intro e w1 hp;obtain ⟨o,ho⟩:∃ o,o=encT T s:=⟨_,rfl⟩;rw [← ho] at hp;rcases o with _ | r
 ·have HE:=Lib.hid (show longE T s=2∧longN T s=0 from by unfold longE longN;rw [← ho];exact ⟨rfl,rfl⟩);obtain ⟨⟨v,rfl⟩,hk⟩:=hp;have HK:=Lib.hid hk;clear hk ho;go_wp2_with fail;go_ret2;rw [HE.out.1,HE.out.2];exact ⟨rfl,HK.out⟩
 ·have HE:=Lib.hid (show longE T s=0∧longN T s=r.length from by unfold longE longN;rw [← ho];exact ⟨rfl,rfl⟩);obtain ⟨A,m,c,hm,rfl,hown,hk⟩:=hp;have HM:=Lib.hid hm;have HK:=Lib.hid hk;clear hk ho hm hown;go_wp2_with fail;go_ret2;rw [HE.out.1,HE.out.2,HM.out];exact ⟨rfl,HK.out⟩
end Go.Proofs.YtanacapkfllbnaaGreatDoor
