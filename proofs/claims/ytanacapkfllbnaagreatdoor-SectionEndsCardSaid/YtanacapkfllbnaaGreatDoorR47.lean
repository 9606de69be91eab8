/-
  The document's layer 12: a front in memory, Alike, Text, Find.
  The document's layer 12: Of.
  The document's layer 12: Read.
  LAYER 13 (section): four, writes.
  The document's layer 13: pieces, four; a section in memory; Find, Text, Prefix.
  The document's layer 13: Find, Prefix.
  LAYER 13 (section): Of.
  Plain law of layer 13: the texts that bytes are of; a section's bytes are read back.
  LAYER 13 (section): Of, of too many texts.
  LAYER 13 (section): the reader: code.
  LAYER 13 (section): the reader: texts.
  LAYER 13's law: size, sorted, begins; Bytes of a section.
  LAYER 13's law: is a section the document's: the walk of same.
  LAYER 13 (section): the chapter's examples (awake).
  CONDITIONS: as each lemma says.
-/
import Derived.Test.YtanacapkfllbnaaGreatDoorR45
import Derived.Test.YtanacapkfllbnaaGreatDoorR46
import Derived.Test.YtanacapkfllbnaaGreatDoorR33
import Derived.Test.YtanacapkfllbnaaGreatDoorR43
import Derived.Test.YtanacapkfllbnaaGreatDoorR00
import Derived.Test.YtanacapkfllbnaaGreatDoorR44
import Derived.Test.YtanacapkfllbnaaGreatDoorR12
import Derived.Test.YtanacapkfllbnaaGreatDoorR20
import Derived.Test.YtanacapkfllbnaaGreatDoorR25
import Derived.Test.YtanacapkfllbnaaGreatDoorR40
import Derived.Test.YtanacapkfllbnaaGreatDoorR38
import Derived.Test.YtanacapkfllbnaaGreatDoorR07
set_option maxRecDepth 100000
set_option maxHeartbeats 4000000
namespace Go.Proofs.YtanacapkfllbnaaGreatDoor
open Go.RowKit

structure RfM (w:World) (lo hi f:Nat) (T:CT) (ss:List ByteArray) (At Ab As:Option Addr) (ct cb cs n N m:Nat):Prop where
 blk:Blk w f 89 [.slice At n ct,.slice Ab N cb,.slice As m cs]
 rt:Rd w hi At (ss.map .string)
 rb:Rd w hi Ab ((frontB T ss).map .bool)
 rs:Rd w hi As (natV (startsN T ss))
 bf:lo≤f∧f < hi
 bt:∀ ad,At=some ad→lo≤ad.block
 bb:∀ ad,Ab=some ad→lo≤ad.block
 bs:∀ ad,As=some ad→lo≤ad.block
 nt:ss.length=n
 nb:(frontB T ss).length=N
 ns:(startsN T ss).length=m
 hcb:N≤cb
 ob:w.ownsRow 0 4 1 (.slice Ab N cb) N ((frontB T ss).map .bool)
 og:∀ g,(Value.slice Ab N cb).ownBlock=some g→lo≤g∧g < hi
section
variable {w w':World} {lo hi f ct cb cs n N m:Nat} {T:CT} {ss:List ByteArray} {At Ab As:Option Addr}
theorem Rd.apart {w w':World} {S:List Nat} {lo hi:Nat} {A:Option Addr} {xs:List Value} (h:Rd w hi A xs) (hk:Kp S w w') (hA:∀ ad,A=some ad→lo≤ad.block) (hS:∀ g ∈ S,g < lo ∨ hi≤g):Rd w' hi A xs:=by
 intro i u hu;obtain ⟨ad,e,hb,hc⟩:=h i u hu
 exact ⟨ad,e,hb,hk.cell hc (fun hm=>by
  rw [addr_add_block] at hm;have:=hA ad e
  rcases hS _ hm with h | h <;> omega)⟩
theorem RfM.kp {S:List Nat} (h:RfM w lo hi f T ss At Ab As ct cb cs n N m) (hk:Kp S w w') (hS:∀ g ∈ S,g < lo ∨ hi≤g):RfM w' lo hi f T ss At Ab As ct cb cs n N m:=
 ⟨h.blk.kp hk (fun hm=>by have:=h.bf;rcases hS f hm with h | h <;> omega),h.rt.apart hk h.bt hS,h.rb.apart hk h.bb hS,h.rs.apart hk h.bs hS,h.bf,h.bt,h.bb,h.bs,h.nt,h.nb,h.ns,h.hcb,own_kp h.ob hk (fun g hg hm=>by have:=h.og g hg;rcases hS g hm with h | h <;> omega),h.og⟩
theorem RfM.kp0 (h:RfM w lo hi f T ss At Ab As ct cb cs n N m) (hk:Kp [] w w'):RfM w' lo hi f T ss At Ab As ct cb cs n N m:=h.kp hk (by simp)
theorem RfM.cells (h:RfM w lo hi f T ss At Ab As ct cb cs n N m):w.cell? ⟨f,0,none⟩=some (.slice At n ct)∧w.cell? ⟨f,1,none⟩=some (.slice Ab N cb)∧w.cell? ⟨f,2,none⟩=some (.slice As m cs):=
 ⟨by rw [h.blk.cell];rfl,by rw [h.blk.cell];rfl,by rw [h.blk.cell];rfl⟩
end
theorem ralike_any (s t:ByteArray) (w:World) (hs:s.size≤1000000000) (_ht:t.size≤1000000000) :
  Calls Tryz.prog 90 #[.string s,.string t] w fun e w'=>e=.returned (.int .i64 ((alikeN (txt s) (txt t):Nat):Int))∧Dr w w':=by
 go_enter Tryz.func90,Tryz.ntmps90
 go_wp2_with fail
 go_loopw [5] (fun i wr=>∃ k:Nat,i=.int .i64 (k:Int)∧k≤s.size∧Hid (alikeN (txt s) (txt t)=alikeN ((txt s).drop k) ((txt t).drop k)+k)∧Dr w wr) (fun i _=>s.size - (intOf i).toNat)
 case atStart=>exact ⟨0,rfl,by omega,Lib.hid rfl,Dr.refl w⟩
 case round =>
  obtain ⟨k,rfl,hk,HE,hd⟩:=hrel;have hk0:(0:Int)≤(k:Int):=by omega
  by_cases hks:k < s.size
  ·have hk1:(k:Int) < (s.size:Int):=by omega
   by_cases hkt:k < t.size
   ·have hk2:(k:Int) < (t.size:Int):=by omega
    have HX:=Lib.hid (txt_get s k hks);have HY:=Lib.hid (txt_get t k hkt);obtain ⟨x,hx⟩:∃ x,s[k].toNat=x:=⟨_,rfl⟩;obtain ⟨y,hy⟩:∃ y,t[k].toNat=y:=⟨_,rfl⟩;have HST:=Lib.hid (alike_step (show (txt s)[k]? = some x from by rw [HX.out,hx]) (show (txt t)[k]? = some y from by rw [HY.out,hy]));clear HX HY;by_cases hxy:x=y
    ·subst hxy;have HE2:=Lib.hid (show alikeN (txt s) (txt t)=alikeN ((txt s).drop (k+1)) ((txt t).drop (k+1))+(k+1) from by rw [HE.out,HST.out,if_pos rfl];omega);clear HE HST;go_wp2_with fail
     go_quiet (fail)
     go_wp2_with fail;exact ⟨⟨k+1,by go_num,by omega,HE2,hd.drewN _⟩,by simp [intOf];omega⟩
    ·have HE2:=Lib.hid (show alikeN (txt s) (txt t)=k from by rw [HE.out,HST.out,if_neg hxy];omega)
     have hxy2:((x:Int) == (y:Int))=false:=by
      have:(x:Int) ≠ (y:Int):=by omega
      simpa using this
     clear HE HST;go_wp2_with fail
     go_quiet (fail)
     go_wp2_with fail;go_ret;exact ⟨by rw [HE2.out];rfl,hd.drewN _⟩
   ·have HE2:=Lib.hid (show alikeN (txt s) (txt t)=k from by
     rw [HE.out,show (txt t).drop k=[] from List.drop_of_length_le (by rw [txt_len];omega),alikeN_right,Nat.zero_add])
    have hkt2:decide (k < t.size)=false:=by simp;omega
    clear HE;go_wp2_with fail
    go_quiet (fail)
    go_wp2_with fail;go_ret;exact ⟨by rw [HE2.out];rfl,hd.drewN _⟩
  ·obtain rfl:k=s.size:=by omega
   have HE2:=Lib.hid (show alikeN (txt s) (txt t)=s.size from by
    rw [HE.out,show (txt s).drop s.size=[] from List.drop_of_length_le (by rw [txt_len];exact Nat.le_refl _),alikeN_left,Nat.zero_add])
   clear HE;go_wp2_with fail
   go_quiet (fail)
   go_wp2_with fail;go_ret;exact ⟨by rw [HE2.out];rfl,hd.drewN _⟩
section
variable {lo hi f ct cb cs n N m:Nat} {T:CT} {ss:List ByteArray} {At Ab As:Option Addr}
end
end Go.Proofs.YtanacapkfllbnaaGreatDoor
namespace Go.Proofs.YtanacapkfllbnaaGreatDoor
open Go.RowKit

def RFt (w0 w:World) (S:List Nat) (f q n ct:Nat) (At A:Option Addr) (c ms:Nat) (xs:List Nat) (L:List Bool):Prop:=
 Blk w f 89 [.slice At n ct,.slice none 0 0,.slice A ms c]∧w.ownsRow (f+1) 3 1 (.slice A ms c) ms (natV xs)∧WrR w S q (L,0)∧f ∉ S∧(∀ g ∈ ownL (.slice A ms c),g ∉ S)∧(∀ g ∈ S,f < g)∧w0.heap.size≤f∧Kp [] w0 w
section
variable {w0 w w':World} {S:List Nat} {f q n ct c ms:Nat} {At A:Option Addr} {xs:List Nat} {L L':List Bool}
theorem RFt.kp0 (h:RFt w0 w S f q n ct At A c ms xs L) (hk:Kp [] w w'):RFt w0 w' S f q n ct At A c ms xs L:=by
 obtain ⟨h1,h2,h3,h4,h5,h6,h7,h8⟩:=h;exact ⟨h1.kp0 hk,own_kp0 h2 hk,h3.kp0 hk,h4,h5,h6,h7,h8.trans hk⟩
theorem RFt.wr (h:RFt w0 w S f q n ct At A c ms xs L) (hw:RPost w w' S q (L',0)):∃ S',RFt w0 w' S' f q n ct At A c ms xs L':=by
 obtain ⟨h1,h2,h3,h4,h5,h6,h7,h8⟩:=h;obtain ⟨S',k1,k2,k3⟩:=hw;have hf:=h1.lt;refine ⟨S',h1.kp k2 h4,own_kp h2 k2 (fun g hg=>h5 g (mem_ownL.2 hg)),k1,fun hm=>?_,fun g hg hm=>?_,fun g hg=>?_,h7,h8.trans' k2 (fun x hx=>.inr (by have:=h6 x hx;omega))⟩
 ·rcases k3 f hm with h | h
  ·exact h4 h
  ·omega
 ·have:=(own_ge h2 (mem_ownL.1 hg)).2;rcases k3 g hm with h | h
  ·exact h5 g hg h
  ·omega
 ·rcases k3 g hg with h | h
  ·exact h6 g h
  ·omega
theorem RFt.start {v:Value} {x:Nat} (h:RFt w0 w S f q n ct At A c ms xs L) (hP:AppP w (f+1) 3 1 (ms+1) (.slice A ms c) (natV xs ++ [.int .i64 (x:Int)]) v w') :
  ∃ (A7:Option Addr) (c7:Nat),v=.slice A7 (ms+1) c7∧RFt w0 (w'.setCell ⟨f,2,none⟩ (.slice A7 (ms+1) c7)) S f q n ct At A7 c7 (ms+1) (xs ++ [x]) L∧w'.cell? ⟨f,2,none⟩=some (.slice A ms c)∧w'.frozen? ⟨f,2,none⟩=false:=by
 obtain ⟨h1,h2,h3,h4,h5,h6,h7,h8⟩:=h;obtain ⟨A7,c7,rfl,hown7,hk7,hn7⟩:=hP;have hf:=h1.lt;have hf5:f ∉ ownL (.slice A ms c):=fun hm=>by have:=(own_ge h2 (mem_ownL.1 hm)).1;omega
 have hf7:f ∉ ownL (.slice A7 (ms+1) c7):=fun hm=>by have:=(own_ge hown7 (mem_ownL.1 hm)).1;omega
 have hb7:=h1.kp hk7 hf5;have hks:Kp [f] w' (w'.setCell ⟨f,2,none⟩ (.slice A7 (ms+1) c7)):=(Kp.refl _ _).setCell (.inl (by simp)) _;have hw7:=h3.kp hk7 (fun g hg hm=>h5 g hm hg);refine ⟨A7,c7,rfl,⟨hb7.set_ 2 _,?_,hw7.kp hks (fun g hg hm=>by rw [List.mem_singleton.1 hm] at hg;exact h4 hg),h4,fun g hg hm=>?_,h6,h7,?_⟩,by rw [hb7.cell];rfl,hb7.free 2⟩
 ·rw [natV_snoc];exact own_kp hown7 hks (fun g hg hm=>by rw [List.mem_singleton.1 hm] at hg;exact hf7 (mem_ownL.2 hg))
 ·rcases hn7 g hg with h | h
  ·exact h5 g h hm
  ·have:=h3.lt g hm;omega
 ·exact (h8.trans' hk7 (fun x hx=>.inr (by have:=(own_ge h2 (mem_ownL.1 hx)).1;omega))).trans' hks (fun x hx=>.inr (by rw [List.mem_singleton.1 hx];exact h7))
theorem RFt.done {T:CT} {ss:List ByteArray} {lo:Nat} (h:RFt w0 w S f q n ct At A c ms (startsN T ss) (frontB T ss)) (hn:ss.length=n) (ht:Rd w w.heap.size At (ss.map .string)) (hbt:∀ ad,At=some ad→lo≤ad.block) (htf:∀ ad,At=some ad→ad.block ≠ f) (hlo:lo≤w0.heap.size) :
  ∃ (Ab:Option Addr) (cb:Nat),w.cell? ⟨q,0,none⟩=some (.slice Ab (frontB T ss).length cb)∧w.cell? ⟨q,1,none⟩=some (.int .i64 0)∧w.cell? ⟨f,1,none⟩=some (.slice none 0 0)∧w.frozen? ⟨f,1,none⟩=false ∧
   RfM (w.setCell ⟨f,1,none⟩ (.slice Ab (frontB T ss).length cb)) lo (w.setCell ⟨f,1,none⟩ (.slice Ab (frontB T ss).length cb)).heap.size f T ss At Ab A ct cb c n (frontB T ss).length ms∧Kp [] w0 (w.setCell ⟨f,1,none⟩ (.slice Ab (frontB T ss).length cb)):=by
 obtain ⟨h1,h2,⟨Ab,cb,k1,k2,k3,k4⟩,h4,h5,h6,h7,h8⟩:=h;have hks:Kp [f] w (w.setCell ⟨f,1,none⟩ (.slice Ab (frontB T ss).length cb)):=(Kp.refl _ _).setCell (.inl (by simp)) _;have hz:(w.setCell ⟨f,1,none⟩ (.slice Ab (frontB T ss).length cb)).heap.size=w.heap.size:=by simp
 have hms:(startsN T ss).length=ms:=by have:=h2.1;unfold natV at this;rw [List.length_map] at this;omega
 have hff:=h1.lt;obtain ⟨_,_,he,hle,_,_,hA⟩:=own_form h2;injection he with e1 e2 e3
 subst e1 e3;obtain ⟨_,_,he',hle',_,_,hA'⟩:=own_form k2;injection he' with e1' e2' e3'
 subst e1' e3';refine ⟨Ab,cb,by rw [k1.cell];rfl,by rw [k1.cell];rfl,by rw [h1.cell];rfl,h1.free 1,⟨h1.set_ 1 _,?_,?_,?_,⟨Nat.le_trans hlo h7,by rw [hz];exact hff⟩,hbt,fun ad e=>?_,fun ad e=>?_,hn,rfl,hms,hle',own_kp k2 hks (fun g hg hm=>h4 (by rw [← List.mem_singleton.1 hm,k4];exact List.mem_cons_of_mem _ (mem_ownL.2 hg))),fun g hg=>?_⟩,h8.trans' hks (fun x hx=>.inr (by rw [List.mem_singleton.1 hx];exact h7))⟩
 ·rw [hz];exact ht.kp_ne hks (fun ad e hm=>htf ad e (List.mem_singleton.1 hm))
 ·rw [hz]
  exact (own_rd k2).kp_ne hks (fun ad e hm=>by
   have h9:ad.block ∈ S:=by
    obtain ⟨h9,h10,_,_⟩:=hA' ad e;rw [k4];refine List.mem_cons_of_mem _ (mem_ownL.2 ?_);subst e
    cases ad
    simp only at h9 h10
    subst h9 h10;rfl
   rw [List.mem_singleton.1 hm] at h9
   exact h4 h9)
 ·rw [hz];exact (own_rd h2).kp_ne hks (fun ad e hm=>by have:=(hA ad e).2.2.1;rw [List.mem_singleton.1 hm] at this;omega)
 ·have h9:ad.block ∈ S:=by
   obtain ⟨h9,h10,_,_⟩:=hA' ad e;rw [k4];refine List.mem_cons_of_mem _ (mem_ownL.2 ?_);subst e
   cases ad
   simp only at h9 h10
   subst h9 h10;rfl
  have:=h6 _ h9;omega
 ·have:=(hA ad e).2.2.1;omega
 ·have h9:g ∈ S:=by rw [k4];exact List.mem_cons_of_mem _ (mem_ownL.2 hg)
  have h10:=h6 g h9;have h11:=(own_ge k2 hg).2;rw [hz];omega
end
def RofP (w:World) (T:CT) (ss:List ByteArray) (e:Ending) (w':World):Prop:=Kp [] w w'∧((riseT ss=false∧e=.returned (.tuple #[.pointer none,.int .i64 12])) ∨ (riseT ss=true∧(∃ s ∈ ss,encT T s=none)∧e=.returned (.tuple #[.pointer none,.int .i64 2])) ∨
 (riseT ss=true∧(∀ s ∈ ss,∃ r,encT T s=some r)∧∃ (f:Nat) (At Ab As:Option Addr) (ct cb cs n N m:Nat),e=.returned (.tuple #[.pointer (some ⟨f,0,none⟩),.int .i64 0])∧RfM w' w.heap.size w'.heap.size f T ss At Ab As ct cb cs n N m))
theorem rfof_any (lo hi p n c B:Nat) (A:Option Addr) (ss:List ByteArray) (T:CT) (sg:List Nat) (ls:List Int) (w:World) (h:RCode w lo hi p T sg ls) (hx:Rd w B A (ss.map .string)) (hn:ss.length=n) (hn3:n≤30000) (hsz:∀ s ∈ ss,s.size≤30000) (hbl:∀ j,(frontB T (ss.take j)).length≤9000000) :
  Calls Tryz.prog 43 #[.pointer (some ⟨p,0,none⟩),.slice A n c] w (RofP w T ss):=by
 obtain ⟨i0,hi0,hz0,hz1,hz2⟩:=info_parts Tryz.info_aint;obtain ⟨is,his,hs0,hs1,hs2⟩:=info_parts Tryz.info_str12;have HSZ:=Lib.hid hsz;have HC:=Lib.hid h;have HX:=Lib.hid hx;have HN:=Lib.hid hn;have HC0:=HC;have HX0:=HX;have HBL:=Lib.hid hbl;clear h hx hn hsz hbl
 go_enter Tryz.func43,Tryz.ntmps43
 go_wp2_with fail
 go_loopw [6] (fun x wr=>∃ k:Nat,x=.int .i64 (k:Int)∧1≤k∧(k≤n ∨ k=1)∧Hid (∀ i s t,i+1 < k→ss[i]? = some s→ss[i+1]? = some t→lexN (txt s) (txt t)=true)∧Hid (Kp [] w wr)) (fun x _=>n - (intOf x).toNat)
 case atStart=>exact ⟨1,rfl,by omega,.inr rfl,Lib.hid (fun i s t h=>by omega),Lib.hid (Kp.refl _ _)⟩
 case round =>
  obtain ⟨k,rfl,hk1,hk,HA,HKR⟩:=hrel;by_cases hlt:k < n
  ·obtain ⟨j,rfl⟩:∃ j,k=j+1:=⟨k - 1,by omega⟩;obtain ⟨t,ad,ht,rfl,_,hct⟩:=(HX.out.kp0 HKR.out).str (k:=j+1) (by rw [HN.out];exact hlt);obtain ⟨s,ad',hs,e',_,hcs⟩:=(HX.out.kp0 HKR.out).str (k:=j) (by rw [HN.out];omega);injection e' with e'
   subst e';have hctp:wr.cell? ⟨ad.block,ad.off+(j+1),none⟩=some (.string t):=hct;have hb0:(0:Int)≤(j:Int):=by omega
   have hb1:(j:Int) < (n:Int):=by omega
   have hb2:(j:Int)+1 < (n:Int):=by omega
   have HLT:=Lib.hid (less_txt s t);have HS:=Lib.hid hs;have HT:=Lib.hid ht;clear hct hs ht
   cases hxx:lexN (txt s) (txt t) with
   | true =>
     have hl:Op.bytesLess s.toList t.toList=true:=by rw [HLT.out,hxx]
     have HA2:=Lib.hid (show ∀ i s t,i+1 < j+1+1→ss[i]? = some s→ss[i+1]? = some t→lexN (txt s) (txt t)=true from fun i s' t' hi h1 h2=>by
      by_cases hij:i=j
      ·subst hij;rw [HS.out] at h1;rw [HT.out] at h2;injection h1 with h1
       injection h2 with h2
       subst h1 h2;exact hxx
      ·exact HA.out i s' t' (by omega) h1 h2)
     clear hxx;go_wp2_with fail
     go_quiet (fail)
     go_wp2_with fail;exact ⟨⟨j+1+1,by go_num,by omega,.inl (by omega),HA2,Lib.hid (HKR.out.drewN _)⟩,by simp [intOf];omega⟩
   | false =>
     have hl:Op.bytesLess s.toList t.toList=false:=by rw [HLT.out,hxx]
     have HE:=Lib.hid (show riseT ss=false from by
      cases h:riseT ss with
      | false=>rfl
      | true=>rw [(riseT_iff ss).1 h j s t HS.out HT.out] at hxx;cases hxx)
     clear hxx;go_wp2_with fail
     go_quiet (fail)
     go_wp2_with fail;go_ret2;exact ⟨HKR.out.drewN _,.inl ⟨HE.out,rfl⟩⟩
  ·have HR:=Lib.hid (show riseT ss=true from (riseT_iff ss).2 (fun i s t h1 h2=>HA.out i s t (by have h3:=(List.getElem?_eq_some_iff.1 h2).1;rw [HN.out] at h3;omega) h1 h2));have HK:=HKR;have HW1:=Lib.hid (show Kp [] wr wr from Kp.refl _ _);obtain ⟨w1,hw1⟩:∃ w1,w1=wr:=⟨_,rfl⟩;rw [← hw1] at HK ⊢;clear HA hw1 HKR HW1;go_wp2_with fail
   go_loopw [7] (fun x wr=>∃ k:Nat,x=.int .i64 (k:Int)∧k≤n∧Hid (∀ s ∈ ss.take k,∃ r,encT T s=some r)∧Hid (Kp [] w wr)) (fun x _=>n - (intOf x).toNat)
   case atStart=>exact ⟨0,rfl,by omega,Lib.hid (by simp),HK⟩
   case round =>
    clear HK;obtain ⟨k,rfl,hk,HA,HKR⟩:=hrel;by_cases hlt:k < n
    ·obtain ⟨s,ad,hs,rfl,_,hcs⟩:=(HX.out.kp0 HKR.out).str (k:=k) (by rw [HN.out];exact hlt);have hsz:=HSZ.out s (List.mem_of_getElem? hs);have hb0:(0:Int)≤(k:Int):=by omega
     have hb1:(k:Int) < (n:Int):=by omega
     have HS:=Lib.hid hs;clear hs;go_wp2_with fail;refine (rbits6_any lo hi p T sg ls s wr (HC.out.kp0 HKR.out) (by omega)).mono ?_;obtain ⟨o,ho⟩:∃ o,o=encT T s:=⟨_,rfl⟩;rw [← ho];intro e w3 hp;rcases o with _ | r
     ·obtain ⟨⟨v,rfl⟩,hk3⟩:=hp;have HK3:=Lib.hid (HKR.out.trans hk3);have HEX:=Lib.hid (show ∃ s ∈ ss,encT T s=none from ⟨s,List.mem_of_getElem? HS.out,ho.symm⟩);clear ho hk3;go_wp2_with fail;go_ret2;exact ⟨HK3.out,.inr (.inl ⟨HR.out,HEX.out,rfl⟩)⟩
     ·obtain ⟨A3,m3,c3,hm3,rfl,hown3,hk3⟩:=hp;have HK3:=Lib.hid (HKR.out.trans hk3)
      have HA2:=Lib.hid (show ∀ s ∈ ss.take (k+1),∃ r,encT T s=some r from fun t ht=>by
       rw [take_succ_of HS.out] at ht;rcases List.mem_append.1 ht with ht | ht
       ·exact HA.out t ht
       ·rw [List.mem_singleton.1 ht];exact ⟨r,ho.symm⟩)
      clear ho hk3 hm3 hown3 hcs;go_wp2_with fail;exact ⟨⟨k+1,by go_num,by omega,HA2,HK3⟩,by simp [intOf];omega⟩
    ·obtain rfl:k=n:=by omega
     have HALL:=Lib.hid (show ∀ s ∈ ss,∃ r,encT T s=some r from by
      have:=HA.out
      rwa [List.take_of_length_le (by rw [HN.out];exact Nat.le_refl _)] at this)
     have HK:=HKR;have HXL:=Lib.hid (show (ss.map Value.string:List Value).length=k * 1 by rw [List.length_map,HN.out,Nat.mul_one]);replace HX:=Lib.hid (HX.out.kp0 HKR.out);clear HA HKR hlt hk
     go_wp2_with first
      | (at_builtin;refine wpList_append_rd rfl (.tmp 49) (.tmp 50) 22 rfl wr.heap.size 9 is (.string ⟨#[]⟩) 1 16 Tryz.underlying22 his hs0 hs1 hs2 rfl (by decide) (.slice (some ⟨wr.heap.size,0,none⟩) 0 0) 0 [] rfl (own_nilS wr wr.heap.size _ 1 (Nat.le_refl _)) _ _ k c (ss.map .string) rfl HXL.out (HX.out.kp0 ((Kp.refl [] _).alloc _)) (ocS _) (by unfold maxLen;omega) (by omega) (by simp) ?_;intro v4 w4 hown4 hgrow4 hat4
         rw [Nat.zero_add,List.nil_append] at hown4;obtain ⟨At,ct,rfl,hle4,_,hA4,hB4⟩:=own_form hown4;have hk4:Kp [] wr w4:=((Kp.refl [] wr).alloc _).grown hgrow4 (fun x hx=>.inr (by simp [Value.ownBlock] at hx;omega));have HO4:=Lib.hid (own_rd hown4);have HB4:=Lib.hid (show ∀ ad,At=some ad→wr.heap.size≤ad.block∧ad.block < w4.heap.size from fun ad e=>⟨(hB4 ad e).2.2.1,(hB4 ad e).2.2.2⟩);have HK4:=Lib.hid (HK.out.trans hk4);have HW4:=Lib.hid (Nat.le_trans HK.out.size (Nat.le_refl _))
         clear hown4 hgrow4 hat4 hk4 hle4 hA4 hB4)
     go_wp2_with fail;obtain ⟨w5,hw5⟩:∃ w5,w5=w4.alloc (.cells #[.slice At k ct,.slice none 0 0,.slice none 0 0] 89):=⟨_,rfl⟩;obtain ⟨w6,hw6⟩:∃ w6,w6=w5.alloc (.cells #[.slice none 0 0,.int .i64 0] 141):=⟨_,rfl⟩;obtain ⟨f,hf⟩:∃ f,f=w4.heap.size:=⟨_,rfl⟩;obtain ⟨q,hq⟩:∃ q,q=f+1:=⟨_,rfl⟩;rw [← hw5,← hw6,← hf,← hq];have h5s:w5.heap.size=f+1:=by rw [hw5,hf];simp
     have hk5:Kp [] w4 w5:=by rw [hw5];exact (Kp.refl [] w4).alloc _
     have hk6:Kp [] w5 w6:=by rw [hw6];exact (Kp.refl [] w5).alloc _
     have HST:=Lib.hid (show RFt w4 w6 [q] f q k ct At none 0 0 [] [] from by
      refine ⟨Blk.kp0 (show Blk w5 f 89 [.slice At k ct,.slice none 0 0,.slice none 0 0] from by rw [hw5,hf];exact Blk.new w4 89 [.slice At k ct,.slice none 0 0,.slice none 0 0]) hk6,World.ownsRow_nil _ _ _ 1,⟨none,0,by rw [hw6,hq,← h5s];exact Blk.new w5 141 [.slice none 0 0,.int .i64 0],World.ownsRow_nil _ _ _ 1,by simp,rfl⟩,?_,(by intro g hg;cases hg),?_,by rw [hf];exact Nat.le_refl _,hk5.trans hk6⟩
      ·intro hm;have:=List.mem_singleton.1 hm;omega
      ·intro g hg;have:=List.mem_singleton.1 hg;omega)
     have HFF:=Lib.hid hf;clear hw5 hw6 hq h5s hk5 hk6 hf
     go_loopw [12] (fun x wr=>∃ (j c2 m:Nat) (A2:Option Addr) (S:List Nat),x=.int .i64 (j:Int)∧j≤k∧m≤j∧Hid (RFt w4 wr S f q k ct At A2 c2 m (startsN T (ss.take j)) (frontB T (ss.take j)))) (fun x _=>k - (intOf x).toNat)
     case atStart=>exact ⟨0,0,0,none,[q],rfl,by omega,by omega,Lib.hid (by rw [(front_zero T ss).1,(front_zero T ss).2];exact HST.out)⟩
     case round =>
      clear HST;obtain ⟨j,c2,m,A2,S,rfl,hj,hm,HS⟩:=hrel;have HKW:=Lib.hid (HK4.out.trans HS.out.2.2.2.2.2.2.2);by_cases hlt:j < k
      ·obtain ⟨s,ad,hs,rfl,hadb,hcs⟩:=(HX0.out.kp0 HKW.out).str (k:=j) (by rw [HN.out];exact hlt);have hb0:(0:Int)≤(j:Int):=by omega
       have hb1:(j:Int) < (k:Int):=by omega
       have hsz:=HSZ.out s (List.mem_of_getElem? hs);obtain ⟨r,hr⟩:=HALL.out s (List.mem_of_getElem? hs);have HNX:=Lib.hid (frontB_next T hs);have HST:=Lib.hid (starts_next T ss j (by rw [HN.out];exact hlt));have HE0:=Lib.hid (show ∃ v,encT T s=some v∧encD T (txt s) 0=v from ⟨r,hr,by unfold encD;rw [List.drop_zero,show T.enc (sgs (txt s))=some r from hr];rfl⟩)
       have HE:=Lib.hid (show ∀ i,∃ v,encT T (s.extract i s.size)=some v∧encD T (txt s) i=v from fun i=>by
        obtain ⟨u,v,hv,_⟩:=enc_rest (show T.enc (sgs (txt s))=some r from hr) i
        exact ⟨v,by unfold encT;rw [txt_tail];exact hv,by unfold encD;rw [hv];rfl⟩)
       have HBJ:=Lib.hid (HBL.out (j+1));obtain ⟨rm,hrm⟩:∃ rm,rm=j % 8:=⟨_,rfl⟩;have HRM:=Lib.hid hrm;have HTM:=Lib.hid (show Int.tmod (j:Int) 8=(rm:Int) from by rw [Int.tmod_eq_emod_of_nonneg (by omega)];omega);have HSS:=Lib.hid hs;obtain ⟨N,hN⟩:∃ N,(frontB T (ss.take j)).length=N:=⟨_,rfl⟩;have HNL:=Lib.hid hN;clear hs hr hrm hN;by_cases hz:rm=0
       ·have hrz:((rm:Int) == 0)=true:=by simp;omega
        have hcst:wr.cell? ⟨f,2,none⟩=some (.slice A2 m c2):=by rw [HS.out.1.cell];rfl
        have HOW:=Lib.hid HS.out.2.1;have HFZ:=Lib.hid (show f+1≤wr.heap.size from HS.out.1.lt);obtain ⟨Aq,cq,hbq,_⟩:=HS.out.2.2.1;have hcq:wr.cell? ⟨q,0,none⟩=some (.slice Aq N cq):=by rw [hbq.cell,← HNL.out];rfl
        have htm:=HTM.out;clear hbq;go_wp2_with fail;refine wp_region_tail (by kernel_rfl) 14 121 11 76 [65,66,67,68,69,70,71,72,73,74,75,76,77,78] [[],[],[66],[66,67],[66,67,68],[],[70],[70,71],[70,71,72],[70,71,72,73],[70,71,72,73,74],[66,67,68,69,70,71,72,73,74,75],[65],[65,77]] [65,66,67,68,69,70,71,72,73,74,77,78] [76] [.pointer (some ⟨f,0,none⟩),.pointer (some ⟨f,0,none⟩),.pointer (some ⟨f,0,none⟩),.pointer (some ⟨f,2,none⟩),.slice A2 m c2,.pointer (some ⟨q,0,none⟩),.pointer (some ⟨q,0,none⟩),.pointer (some ⟨q,0,none⟩),.slice Aq N cq,.int .i64 (N:Int),.pointer (some ⟨f,0,none⟩),.pointer (some ⟨f,2,none⟩)] [(65,.eq (.pointer (some ⟨f,0,none⟩))),(66,.eq (.pointer (some ⟨f,0,none⟩))),(67,.eq (.pointer (some ⟨f,0,none⟩))),(68,.eq (.pointer (some ⟨f,2,none⟩))),(69,.eq (.slice A2 m c2)),(70,.eq (.pointer (some ⟨q,0,none⟩))),(71,.eq (.pointer (some ⟨q,0,none⟩))),(72,.eq (.pointer (some ⟨q,0,none⟩))),(73,.eq (.slice Aq N cq)),(74,.eq (.int .i64 (N:Int))),(75,SFact.vals 1 ([.int .i64 (N:Int)])),(76,(⟨AppP wr (f+1) 3 1 (m+1) (.slice A2 m c2) (natV (startsN T (ss.take j)) ++ [.int .i64 (N:Int)]),AppP.st⟩:SFact)),(77,.eq (.pointer (some ⟨f,0,none⟩))),(78,.eq (.pointer (some ⟨f,2,none⟩)))] rfl (by kernel_rfl) (by kernel_rfl) (by kernel_rfl) rfl rfl _ (fun x=>by simp only [fillL,Nat.reduceAdd,Nat.reduceEqDiff,↓reduceIte];rfl) ?_ ?_ ?_
        ·refine ⟨?_,?_,?_,?_,?_,?_,?_,?_,?_,?_,?_,?_,?_,?_,trivial⟩
         ·intro fx w' fa hd ev;have e10:fa.tmps[10]?.getD undef=.pointer (some ⟨f,0,none⟩):=ev.old 10 rfl;refine stepF_un rfl (fun K hK=>?_);exact stepF_val _ hK (run_move rfl e10 _) rfl
         ·intro fx w' fa hk hd ev;have e10:fa.tmps[10]?.getD undef=.pointer (some ⟨f,0,none⟩):=ev.old 10 rfl;refine stepF_un rfl (fun K hK=>?_);exact stepF_val _ hK (run_move rfl e10 _) rfl
         ·intro fx w' fa hk hd ev;have e66:=(ev.new 66 rfl).trans (show fx 66=.pointer (some ⟨f,0,none⟩) from hd.1);refine stepF_un rfl (fun K hK=>?_);go_simp;exact hK _ _ rfl (Kp.refl _ _)
         ·intro fx w' fa hk hd ev;have e67:=(ev.new 67 rfl).trans (show fx 67=.pointer (some ⟨f,0,none⟩) from hd.2.1);refine stepF_un rfl (fun K hK=>?_);go_simp;exact hK _ _ rfl (Kp.refl _ _)
         ·intro fx w' fa hk hd ev;have e68:=(ev.new 68 rfl).trans (show fx 68=.pointer (some ⟨f,2,none⟩) from hd.2.2.1);refine stepF_un rfl (fun K hK=>?_);have q9:=hk.cell hcst (by simp);go_simp;exact hK _ _ rfl (Kp.refl _ _)
         ·intro fx w' fa hk hd ev;have e11:fa.tmps[11]?.getD undef=.pointer (some ⟨q,0,none⟩):=ev.old 11 rfl;refine stepF_un rfl (fun K hK=>?_);exact stepF_val _ hK (run_move rfl e11 _) rfl
         ·intro fx w' fa hk hd ev;have e70:=(ev.new 70 rfl).trans (show fx 70=.pointer (some ⟨q,0,none⟩) from hd.1);refine stepF_un rfl (fun K hK=>?_);go_simp;exact hK _ _ rfl (Kp.refl _ _)
         ·intro fx w' fa hk hd ev;have e71:=(ev.new 71 rfl).trans (show fx 71=.pointer (some ⟨q,0,none⟩) from hd.2.1);refine stepF_un rfl (fun K hK=>?_);go_simp;exact hK _ _ rfl (Kp.refl _ _)
         ·intro fx w' fa hk hd ev;have e72:=(ev.new 72 rfl).trans (show fx 72=.pointer (some ⟨q,0,none⟩) from hd.2.2.1);refine stepF_un rfl (fun K hK=>?_);have q9:=hk.cell hcq (by simp);go_simp;exact hK _ _ rfl (Kp.refl _ _)
         ·intro fx w' fa hk hd ev;have e73:=(ev.new 73 rfl).trans (show fx 73=.slice Aq N cq from hd.2.2.2.1);refine stepF_un rfl (fun K hK=>?_);go_simp;exact hK _ _ rfl (Kp.refl _ _)
         ·intro fx w' fa hk hd ev;have e74:=(ev.new 74 rfl).trans (show fx 74=.int .i64 (N:Int) from hd.2.2.2.2.1);refine stepF_un rfl (fun K hK=>?_);go_simp;exact hK _ _ (vals_new w' ([.int .i64 (N:Int)]) 3 1) ((Kp.refl _ _).alloc _)
         ·exact trivial
         ·intro fx w' fa hd ev;have e65:=(ev.new 65 rfl).trans (show fx 65=.pointer (some ⟨f,0,none⟩) from hd.1);refine stepF_un rfl (fun K hK=>?_);go_simp;exact hK _ _ rfl (Kp.refl _ _)
         ·intro fx w' fa hd ev;have e77:=(ev.new 77 rfl).trans (show fx 77=.pointer (some ⟨f,0,none⟩) from hd.2.1);refine stepF_un rfl (fun K hK=>?_);go_simp;exact hK _ _ rfl (Kp.refl _ _)
        ·intro o1 ho1 fx w' fa hk hd ev K hK;obtain rfl:=Option.some.inj ho1;have e69:=(ev.new 69 rfl).trans (show fx 69=.slice A2 m c2 from hd.2.2.2.1);have h75:(SFact.vals 1 ([.int .i64 (N:Int)]):SFact).p (fx 75) w':=hd.2.2.2.2.2.2.2.2.2.1;obtain ⟨A75,c75,v75,hc75,hr75⟩:=h75;have e75:fa.tmps[75]?.getD undef=.slice A75 1 c75:=(ev.new 75 rfl).trans v75;exact wp_append_app 69 75 81 rfl (f+1) 3 i0 (.int .i64 0) 1 8 Tryz.underlying81 hi0 hz0 hz1 hz2 rfl (by decide) (.slice A2 m c2) m _ e69 HOW.out hk _ A75 1 c75 _ e75 rfl hr75 (by intro u hu;simp at hu;subst hu;rfl) (by unfold maxLen;omega) (by omega) HFZ.out hK
        ·intro fx w' hd;have h65:fx 65=.pointer (some ⟨f,0,none⟩):=hd.1;have h66:fx 66=.pointer (some ⟨f,0,none⟩):=hd.2.1;have h67:fx 67=.pointer (some ⟨f,0,none⟩):=hd.2.2.1;have h68:fx 68=.pointer (some ⟨f,2,none⟩):=hd.2.2.2.1;have h69:fx 69=.slice A2 m c2:=hd.2.2.2.2.1;have h70:fx 70=.pointer (some ⟨q,0,none⟩):=hd.2.2.2.2.2.1;have h71:fx 71=.pointer (some ⟨q,0,none⟩):=hd.2.2.2.2.2.2.1;have h72:fx 72=.pointer (some ⟨q,0,none⟩):=hd.2.2.2.2.2.2.2.1;have h73:fx 73=.slice Aq N cq:=hd.2.2.2.2.2.2.2.2.1;have h74:fx 74=.int .i64 (N:Int):=hd.2.2.2.2.2.2.2.2.2.1;have hP:(AppP wr (f+1) 3 1 (m+1) (.slice A2 m c2) (natV (startsN T (ss.take j)) ++ [.int .i64 (N:Int)])) (fx 76) w':=hd.2.2.2.2.2.2.2.2.2.2.1;have h77:fx 77=.pointer (some ⟨f,0,none⟩):=hd.2.2.2.2.2.2.2.2.2.2.2.1;have h78:fx 78=.pointer (some ⟨f,2,none⟩):=hd.2.2.2.2.2.2.2.2.2.2.2.2.1
         change Oper.wp _ _ _ _ _ _
         obtain ⟨A7,c7,e76,hS7,g1,g2⟩:=HS.out.start hP;obtain ⟨w7,hw7⟩:∃ w7,w7=w'.setCell ⟨f,2,none⟩ (.slice A7 (m+1) c7):=⟨_,rfl⟩;rw [← hw7] at hS7;have HS7:=Lib.hid hS7;rw [e76,h78];clear hd hS7 hcst hcq;go_simp;rw [← hw7];clear hw7 g1 g2 HS HOW HFZ;obtain ⟨s',ad',hs',e',_,hcs7⟩:=(HX0.out.kp0 (HK4.out.trans HS7.out.2.2.2.2.2.2.2)).str (k:=j) (by rw [HN.out];exact hlt);injection e' with e'
         subst e';rw [HSS.out] at hs';injection hs' with hs'
         subst hs';go_wp2_with fail;rw [show startsN T (ss.take j) ++ [N]=startsN T (ss.take (j+1)) from by rw [HST.out,if_pos (by have:=HRM.out;omega),HNL.out]] at HS7;have HLQ:=Lib.hid (show frontB T (ss.take j) ++ encD T (txt s) 0=frontB T (ss.take (j+1)) from by rw [HNX.out];unfold pieceF;rw [if_pos (by have:=HRM.out;omega)]);obtain ⟨v,hv1,hv2⟩:=HE0.out;have hLX:=HLQ.out;rw [hv2] at hLX;have hLN:=congrArg List.length hLX;rw [List.length_append] at hLN
         have hPT:wPut ((frontB T (ss.take j)),0) v=((frontB T (ss.take j)) ++ v,0):=by
          unfold wPut;rw [if_neg (by simp),if_neg (by have:=HBJ.out;show ¬ 16777216 < (frontB T (ss.take j)).length+v.length;omega)]
         refine (rbits6_any lo hi p T sg ls s w7 (HC0.out.kp0 (HK4.out.trans HS7.out.2.2.2.2.2.2.2)) (by omega)).mono ?_;rw [hv1];rintro e w8 ⟨A8,m8,c8,hm8,rfl,hown8,hk8⟩;have HS8:=Lib.hid (HS7.out.kp0 hk8);have HR8:=Lib.hid (own_rd hown8);have HM8:=Lib.hid hm8;have hm8b:m8≤1000000000:=by have:=HBJ.out;omega
         have HPT:=Lib.hid hPT;have HLQ.out:=Lib.hid hLX;clear hPT hLX hLN hv1 hv2 hm8 hown8 hk8;go_wp2_with fail;refine (rwput_any S q N m8 c8 _ A8 v ((frontB T (ss.take j)),0) w8 HS8.out.2.2.1 HNL.out HR8.out HM8.out.symm hm8b).mono ?_;rw [HPT.out,HLQ.out.out];rintro e w9 ⟨rfl,hp9⟩;obtain ⟨S9,hS9⟩:=HS8.out.wr hp9;have HS9:=Lib.hid hS9;clear hp9 hS9 HS8;go_wp2_with fail;exact ⟨⟨j+1,c7,(m+1),A7,S9,by go_num,by omega,by omega,HS9⟩,by simp [intOf];omega⟩
       ·have hrz:((rm:Int) == 0)=false:=by simp;omega
        obtain ⟨i,rfl⟩:∃ i,j=i+1:=⟨j - 1,by have:=HRM.out;omega⟩;obtain ⟨t,ad',ht,e',_,hct⟩:=(HX0.out.kp0 HKW.out).str (k:=i) (by rw [HN.out];omega);injection e' with e'
        subst e';have HPV:=Lib.hid (show prevT ss (i+1)=txt t from prevT_succ ht);have htz:=HSZ.out t (List.mem_of_getElem? ht);have htm:=HTM.out;have hcs2:wr.cell? ⟨ad.block,ad.off+(i+1),none⟩=some (.string s):=hcs;obtain ⟨al,hal⟩:∃ al,alikeN (txt t) (txt s)=al:=⟨_,rfl⟩;have hals:al≤s.size:=by rw [← hal,← txt_len];exact (alikeN_le _ _).2.1
        have HAL:=Lib.hid hal;have hb2:(0:Int)≤(i:Int):=by omega
        have hb3:(i:Int) < (k:Int):=by omega
        have htm2:Int.tmod ((i:Int)+1) 8=(rm:Int):=by rw [Int.tmod_eq_emod_of_nonneg (by omega)];have:=HRM.out;omega
        have hjr:(((i+1:Nat)):Int)=(i:Int)+1:=by omega
        have HLK:=Lib.hid (fun w'=>ralike_any t s w' (by omega) (by omega));rw [HAL.out] at HLK;clear ht hcs hal;go_wp2_with fail
        go_quiet ((go_at_call 90;exact quiet_dr (HLK.out _)))
        obtain ⟨w7,hw7⟩:∃ w7,w7=wr.drewN nq:=⟨_,rfl⟩;rw [← hw7];have HS7:=Lib.hid (show RFt w4 w7 S f q k ct At A2 c2 m (startsN T (ss.take (i+1))) (frontB T (ss.take (i+1))) from HS.out.kp0 (hw7 ▸ (Kp.refl _ _).drewN nq));have hcs7:w7.cell? ⟨ad.block,ad.off+(i+1),none⟩=some (.string s):=by rw [hw7];exact hcs2
        clear hw7 hct hcs2 HLK HS;go_wp2_with fail;refine (rgamma_any S q N 1 1 _ _ [((al+1:Nat):Int)] (frontB T (ss.take (i+1)),0) _ (HS7.out.2.2.1.kp0 ((Kp.refl [] w7).alloc _)) HNL.out (Rd.new w7 #[.int .i64 ((al+1:Nat):Int)] 3 (0,0)) rfl (by omega) (by intro x hx;simp at hx;omega)).mono ?_;rw [wGam_one (L:=frontB T (ss.take (i+1))) (by omega) (by omega) (by have:=HBL.out (i+1);omega)];rintro e w8 ⟨rfl,hp8⟩;obtain ⟨S8,hS8⟩:=(HS7.out.kp0 ((Kp.refl [] w7).alloc _)).wr hp8;rw [show startsN T (ss.take (i+1))=startsN T (ss.take (i+1+1)) from by rw [HST.out,if_neg (by have:=HRM.out;omega)]] at hS8;have HS8:=Lib.hid hS8
        have HLQ:=Lib.hid (show (frontB T (ss.take (i+1)) ++ gamL (al+1)) ++ encD T (txt s) al=frontB T (ss.take (i+1+1)) from by
         rw [HNX.out];unfold pieceF
         rw [if_neg (by have:=HRM.out;omega),HPV.out,HAL.out,List.append_assoc])
        obtain ⟨N8,hN8⟩:∃ N8,(frontB T (ss.take (i+1)) ++ gamL (al+1)).length=N8:=⟨_,rfl⟩;have HN8:=Lib.hid hN8;have HSX:=Lib.hid (show (s.extract al s.size).size≤1000000 from by rw [← txt_len,txt_tail,List.length_drop,txt_len];omega);clear hp8 hS8 hN8 HS7 htm htm2 hcs7;obtain ⟨s',ad',hs',e',_,hcs8⟩:=(HX0.out.kp0 (HK4.out.trans HS8.out.2.2.2.2.2.2.2)).str (k:=i+1) (by rw [HN.out];exact hlt);injection e' with e'
        subst e';rw [HSS.out] at hs';injection hs' with hs'
        subst hs';have hcs9:w8.cell? ⟨ad.block,ad.off+(i+1),none⟩=some (.string s):=hcs8;clear hcs8;go_wp2_with fail;obtain ⟨v,hv1,hv2⟩:=(HE.out al);have hLX:=HLQ.out;rw [hv2] at hLX;have hLN:=congrArg List.length hLX;rw [List.length_append] at hLN
        have hPT:wPut ((frontB T (ss.take (i+1)) ++ gamL (al+1)),0) v=((frontB T (ss.take (i+1)) ++ gamL (al+1)) ++ v,0):=by
         unfold wPut;rw [if_neg (by simp),if_neg (by have:=HBJ.out;show ¬ 16777216 < (frontB T (ss.take (i+1)) ++ gamL (al+1)).length+v.length;omega)]
        refine (rbits6_any lo hi p T sg ls (s.extract al s.size) w8 (HC0.out.kp0 (HK4.out.trans HS8.out.2.2.2.2.2.2.2)) HSX.out).mono ?_;rw [hv1];rintro e w8 ⟨A8,m8,c8,hm8,rfl,hown8,hk8⟩;have HS8:=Lib.hid (HS8.out.kp0 hk8);have HR8:=Lib.hid (own_rd hown8);have HM8:=Lib.hid hm8;have hm8b:m8≤1000000000:=by have:=HBJ.out;omega
        have HPT:=Lib.hid hPT;have HLQ.out:=Lib.hid hLX;clear hPT hLX hLN hv1 hv2 hm8 hown8 hk8;go_wp2_with fail;refine (rwput_any S8 q N8 m8 c8 _ A8 v ((frontB T (ss.take (i+1)) ++ gamL (al+1)),0) w8 HS8.out.2.2.1 HN8.out HR8.out HM8.out.symm hm8b).mono ?_;rw [HPT.out,HLQ.out.out];rintro e w9 ⟨rfl,hp9⟩;obtain ⟨S9,hS9⟩:=HS8.out.wr hp9;have HS9:=Lib.hid hS9;clear hp9 hS9 HS8;go_wp2_with fail;exact ⟨⟨(i+1)+1,c2,m,A2,S9,by go_num,by omega,by omega,HS9⟩,by simp [intOf];omega⟩
      ·obtain rfl:j=k:=by omega
       have HST:=Lib.hid (show RFt w4 wr S f q j ct At A2 c2 m (startsN T ss) (frontB T ss) from by
        have:=HS.out
        rwa [List.take_of_length_le (by rw [HN.out];exact Nat.le_refl _)] at this)
       have HRT:=Lib.hid (show Rd wr wr.heap.size At (ss.map .string) from (HO4.out.kp0 HST.out.2.2.2.2.2.2.2).bound HST.out.2.2.2.2.2.2.2.size);obtain ⟨Ab,cb,hq0,hq1,hf1,hff,hrf,hkf⟩:=HST.out.done (lo:=w.heap.size) HN.out HRT.out (fun ad e=>Nat.le_trans HW4.out (HB4.out ad e).1) (fun ad e=>by have:=(HB4.out ad e).2;have:=HFF.out;omega) HK4.out.size;have HRF:=Lib.hid hrf;have HKF:=Lib.hid hkf;obtain ⟨N,hN⟩:∃ N,(frontB T ss).length=N:=⟨_,rfl⟩;rw [hN] at HRF HKF hq0;clear hrf hkf hN HS HST HRT;go_wp2_with fail;go_ret2;exact ⟨HK4.out.trans HKF.out,.inr (.inr ⟨HR.out,HALL.out,f,At,Ab,A2,ct,cb,c2,j,N,m,rfl,HRF.out⟩)⟩
end Go.Proofs.YtanacapkfllbnaaGreatDoor
namespace Go.Proofs.YtanacapkfllbnaaGreatDoor
open Go.RowKit

theorem rsame_any (A A':Option Addr) (n m c c' B B':Nat) (a b:List Bool) (w:World) (hx:Rd w B A (a.map .bool)) (hy:Rd w B' A' (b.map .bool)) (hn:a.length=n) (hm:b.length=m) (hb:n≤1000000000) :
  Calls Tryz.prog 150 #[.slice A n c,.slice A' m c'] w fun e w'=>e=.returned (.bool (decide (a=b)))∧Dr w w':=by
 have HX:=Lib.hid hx;clear hx;have HY:=Lib.hid hy;clear hy;have HN:=Lib.hid hn;clear hn;have HM:=Lib.hid hm;clear hm
 go_enter Tryz.func150,Tryz.ntmps150
 go_wp2_with fail
 go_loopw [5] (fun x wr=>∃ k:Nat,x=.int .i64 (k:Int)∧k≤n∧k≤m∧Hid (a.take k=b.take k)∧Dr w wr) (fun x _=>n - (intOf x).toNat)
 case atStart=>exact ⟨0,rfl,by omega,by omega,Lib.hid rfl,Dr.refl w⟩
 case round =>
  obtain ⟨k,rfl,hk,hkm,HE,hd⟩:=hrel;by_cases hlt:k < n
  ·have h1:(k:Int) < (n:Int):=by omega
   have h0:(0:Int)≤(k:Int):=by omega
   by_cases hlm:k < m
   ·have h2:(k:Int) < (m:Int):=by omega
    obtain ⟨x,ad,hxk,rfl,_,hcx⟩:=(HX.out.kp0 (hd.kp [])).bl (k:=k) (by rw [HN.out];exact hlt);obtain ⟨y,ad',hyk,rfl,_,hcy⟩:=(HY.out.kp0 (hd.kp [])).bl (k:=k) (by rw [HM.out];exact hlm);have HXK:=Lib.hid hxk;have HYK:=Lib.hid hyk;clear hxk hyk;by_cases hxy:x=y
    ·subst hxy;have HE2:=Lib.hid (show a.take (k+1)=b.take (k+1) from by rw [List.take_add_one,List.take_add_one,HXK.out,HYK.out,HE.out]);go_wp2_with fail
     go_quiet (fail)
     go_wp2_with fail;exact ⟨⟨k+1,by go_num,by omega,by omega,HE2,hd.drewN _⟩,by simp [intOf];omega⟩
    ·have HNE:=Lib.hid (show decide (a=b)=false from decide_eq_false (fun e=>by
      have h3:=HXK.out;rw [e,HYK.out] at h3;injection h3 with h3
      exact hxy h3.symm))
     have hxy2:(x == y)=false:=by simpa using hxy
     go_wp2_with fail
     go_quiet (fail)
     go_wp2_with fail;go_ret;exact ⟨by rw [HNE.out];rfl,hd.drewN _⟩
   ·have hlm2:decide (k < m)=false:=by simp;omega
    have hnm:((n:Int) == (m:Int))=false:=by
     have:(n:Int) ≠ (m:Int):=by omega
     simpa using this
    have HNE:=Lib.hid (show decide (a=b)=false from decide_eq_false (fun e=>by
     have h3:=HN.out;rw [e,HM.out] at h3
     omega))
    go_wp2_with fail;go_ret;exact ⟨by rw [HNE.out];rfl,hd⟩
  ·obtain rfl:k=n:=by omega
   by_cases hnm:k=m
   ·subst hnm
    have HNE:=Lib.hid (show decide (a=b)=true from decide_eq_true (by
     have h3:=HE.out
     rwa [List.take_of_length_le (by rw [HN.out];exact Nat.le_refl _),List.take_of_length_le (by rw [HM.out];exact Nat.le_refl _)] at h3))
    go_wp2_with fail;go_ret;exact ⟨by rw [HNE.out];rfl,hd⟩
   ·have hnm2:((k:Int) == (m:Int))=false:=by
     have:(k:Int) ≠ (m:Int):=by omega
     simpa using this
    have HNE:=Lib.hid (show decide (a=b)=false from decide_eq_false (fun e=>by
     have h3:=HN.out;rw [e,HM.out] at h3
     omega))
    go_wp2_with fail;go_ret;exact ⟨by rw [HNE.out];rfl,hd⟩
theorem nextF_first (T:CT) (L:List Bool) (a:Nat) (ahead:List Nat):nextF T L a false ahead true=(((getF T L a false).1,(getF T L a false).2.1),(a+(getF T L a false).2.2.1,(getF T L a false).2.2.2)):=by
 unfold nextF gamR;simp only [if_true]
 rw [if_neg (by simp)]
 simp
theorem nextF_bad (T:CT) (L:List Bool) (a g a2:Nat) (bad2:Bool) (ahead:List Nat) (h:rGam L a false=(g,a2,bad2)) (hb:bad2=true ∨ (ahead.length:Int) < (g:Int) - 1):(nextF T L a false ahead false).1.2=4:=by
 unfold nextF gamR;rw [h];simp only [Bool.false_eq_true,if_false]
 rw [if_pos hb]
theorem nextF_go (T:CT) (L:List Bool) (a g a2:Nat) (bad2:Bool) (ahead:List Nat) (h:rGam L a false=(g,a2,bad2)) (hb:bad2=false) (hg:¬ (ahead.length:Int) < (g:Int) - 1):nextF T L a false ahead false=((ahead.take ((g:Int) - 1).toNat ++ (getF T L a2 false).1,(getF T L a2 false).2.1),(a2+(getF T L a2 false).2.2.1,(getF T L a2 false).2.2.2)):=by
 unfold nextF gamR;rw [h];subst hb;simp only [Bool.false_eq_true,if_false]
 rw [if_neg (by simp only [false_or];exact hg)]
theorem lastT {ts:List ByteArray} {k:Nat} {t:ByteArray} (hl:ts.length=k+1) (h:ts[k]? = some t):(ts.map txt).getLastD []=txt t:=by
 rw [List.getLastD_eq_getLast?,List.getLast?_eq_getElem?,List.length_map,hl,Nat.add_sub_cancel,List.getElem?_map,h];rfl
def RfreadP (w:World) (T:CT) (L:List Bool) (n:Nat) (e:Ending) (w':World):Prop:=Kp [] w w'∧((readT T L n=none∧e=.returned (.tuple #[.pointer none,.int .i64 4])) ∨
 (∃ (ts:List ByteArray) (f:Nat) (At Ab As:Option Addr) (ct cb cs n' N' m':Nat),readT T L n=some ts∧e=.returned (.tuple #[.pointer (some ⟨f,0,none⟩),.int .i64 0])∧RfM w' w.heap.size w'.heap.size f T ts At Ab As ct cb cs n' N' m'))
theorem RfM.low {w:World} {lo lo' hi f ct cb cs n N m:Nat} {T:CT} {ss:List ByteArray} {At Ab As:Option Addr} (h:RfM w lo hi f T ss At Ab As ct cb cs n N m) (hl:lo'≤lo):RfM w lo' hi f T ss At Ab As ct cb cs n N m:=
 ⟨h.blk,h.rt,h.rb,h.rs,⟨Nat.le_trans hl h.bf.1,h.bf.2⟩,fun ad e=>Nat.le_trans hl (h.bt ad e),fun ad e=>Nat.le_trans hl (h.bb ad e),fun ad e=>Nat.le_trans hl (h.bs ad e),h.nt,h.nb,h.ns,h.hcb,h.ob,fun g hg=>⟨Nat.le_trans hl (h.og g hg).1,(h.og g hg).2⟩⟩
theorem rfread_any (lo hi p n N cA:Nat) (A0:Option Addr) (T:CT) (sg:List Nat) (ls:List Int) (L:List Bool) (w:World) (h:RCode w lo hi p T sg ls) (hx:Rd w w.heap.size A0 (L.map .bool)) (hN:L.length=N) (hc:N≤cA) (hN24:N≤16777216) (hall:∀ k ts a,k≤n→readK T L k=some (ts,a)→ReadB T L k ts a) (hn:n≤1000000000) (hhi:hi≤w.heap.size) :
  Calls Tryz.prog 107 #[.pointer (some ⟨p,0,none⟩),.int .i64 (n:Int),.slice A0 N cA] w (RfreadP w T L n):=by
 obtain ⟨i0,hi0,hz0,hz1,hz2⟩:=info_parts Tryz.info_str17;have H:=Lib.hid h;clear h;have HX:=Lib.hid hx;clear hx;have HN:=Lib.hid hN;clear hN;have HHI:=Lib.hid hhi;clear hhi;have HALL:=Lib.hid hall;clear hall;have hn0:decide ((n:Int) < 0)=false:=by simp
 go_enter Tryz.func107,Tryz.ntmps107
 go_wp2_with fail;obtain ⟨wB,hwB⟩:∃ wB,wB=w.alloc (.cells #[.slice A0 N cA,.int .i64 0,.bool false] 213):=⟨_,rfl⟩;obtain ⟨rb,hrb⟩:∃ rb,rb=w.heap.size:=⟨_,rfl⟩;rw [← hwB,← hrb];have hkB:Kp [] w wB:=by rw [hwB];exact (Kp.refl [] w).alloc _
 have HRR:=Lib.hid (show RrM wB rb A0 N cA 0 false from by rw [hwB,hrb];exact Blk.new w 213 [.slice A0 N cA,.int .i64 0,.bool false]);have HK:=Lib.hid hkB;have HBS:=Lib.hid (show wB.heap.size=rb+1 from by rw [hwB,hrb];simp);have HRB:=Lib.hid hrb;clear hwB hkB hrb
 go_loopw [9,10] (fun v x wr=>∃ (k a c:Nat) (A:Option Addr) (ts:List ByteArray),v=.slice A k c∧x=.int .i64 (k:Int)∧k≤n∧Hid (readK T L k=some (ts,a))∧Hid (wr.ownsRow (rb+1) 9 1 (.slice A k c) k (ts.map .string))∧Hid (RrM wr rb A0 N cA a false)∧Hid (Kp [] w wr)) (fun _ x _=>n - (intOf x).toNat)
 case atStart=>exact ⟨0,0,0,none,[],rfl,rfl,by omega,Lib.hid rfl,Lib.hid (World.ownsRow_nil _ _ _ 1),HRR,HK⟩
 case round =>
  clear HRR HK;obtain ⟨k,a,c,A,ts,rfl,rfl,hk,HRK,HO,HRR,HK⟩:=hrel;have HOK:=Lib.hid (HALL.out _ _ _ hk HRK.out);have hkb:k≤30000:=HOK.out.kb;have haN:a≤N:=by have:=HOK.out.le;rw [HN.out] at this;exact this
  by_cases hlt:k < n
  ·have hltI:(k:Int) < (n:Int):=by omega
   obtain ⟨rm,hrm⟩:∃ rm,rm=k % 8:=⟨_,rfl⟩;have HRM:=Lib.hid hrm;have htm:Int.tmod (k:Int) 8=(rm:Int):=by rw [Int.tmod_eq_emod_of_nonneg (by omega)];omega
   clear hrm;by_cases hz:rm=0
   ·have htm0:Int.tmod (k:Int) 8=0:=by rw [htm,hz];rfl
    have HRN:=Lib.hid (show readK T L (k+1)=if (getF T L a false).2.1=0 then some (ts ++ [strN (getF T L a false).1],a+(getF T L a false).2.2.1) else none from by
     rw [readK,HRK.out];simp only
     rw [show decide (k % 8=0)=true from by simp;have:=HRM.out;omega,nextF_first])
    clear htm;go_wp2_with fail;refine (rget6_any lo hi p rb N cA a _ A0 false L T sg ls wr (H.out.kp0 HK.out) HRR.out (HX.out.kp0 HK.out) HN.out hc haN hN24 (by rw [HRB.out];exact Nat.le_refl _) (by rw [HRB.out];exact HHI.out)).mono ?_;intro e w5 hp;have HBK:=Lib.hid (fun h=>getF_back H.out.1 (L:=L) (a:=a) (by rw [HN.out];exact haN) h);have HOL:=Lib.hid (getF_out T L a);obtain ⟨F,hF⟩:∃ F,F=getF T L a false:=⟨_,rfl⟩;rw [← hF] at hp HRN HBK HOL;clear hF;obtain ⟨ob,er,na,bad5⟩:=F;unfold RGetP at hp
    dsimp only at hp HRN HBK HOL
    obtain ⟨rfl,hr5,hk5⟩:=hp;have HKX:=Lib.hid ((Kp.refl [rb] wr).trans hk5);by_cases her:er=0
    ·subst her;obtain ⟨_,_,_,_,_,hbad,_⟩:=HBK.out rfl;subst hbad;have HRX:=Lib.hid hr5;clear hr5 hk5 HBK;obtain ⟨st,hst⟩:∃ st,st=strN ob:=⟨_,rfl⟩;have HST:=Lib.hid hst;rw [← hst];clear hst;rw [← HST.out] at HRN;clear htm0;have HRN5:=Lib.hid (show readK T L (k+1)=some (ts ++ [st],(a+na)) from by rw [HRN.out];simp);have HO5:=Lib.hid (own_kp HO.out HKX.out (fun g hg hm=>by have h1:=(own_ge HO.out hg).1;have h2:=List.mem_singleton.1 hm;omega));have HSZ5:=Lib.hid (show rb+1≤w5.heap.size from Nat.le_trans (Blk.lt HRR.out) HKX.out.size);have HK5:=Lib.hid (HK.out.trans' HKX.out (fun x hx=>.inr (by rw [List.mem_singleton.1 hx,HRB.out];exact Nat.le_refl _)));clear HRR HK HO
     go_wp2_with (at_builtin;go_loud (refine wpList_append_rd rfl (.tmp 65) (.tmp 67) 22 rfl (rb+1) 9 i0 (.string ⟨#[]⟩) 1 16 Tryz.underlying22 hi0 hz0 hz1 hz2 rfl (by decide) (.slice A k c) (k) _ rfl (own_kp0 HO5.out ((Kp.refl [] _).alloc _)) _ _ 1 1 [.string st] rfl rfl (Rd.new w5 #[.string st] 9 (0,0)) (by intro u hu;simp at hu;subst hu;rfl) (by unfold maxLen;omega) (by omega) (by have:=HSZ5.out;simp;omega) ?_);intro v3 w3 hown3 hgrow3 hat3;obtain ⟨hka3,hga3⟩:=app_facts hgrow3 hat3;obtain ⟨A3',c3',rfl,_⟩:=own_form hown3)
     have HO3:=Lib.hid (show w3.ownsRow (rb+1) 9 1 (.slice A3' (k+1) c3') (k+1) ((ts ++ [st]).map .string) from by rw [List.map_append];exact hown3);have HR3:=Lib.hid (HRX.out.kp hka3 (fun hm=>by have h1:=(own_ge HO5.out (mem_ownL.1 hm)).1;omega));have HK3:=Lib.hid (HK5.out.trans' hka3 (fun x hx=>.inr (by have h1:=(own_ge HO5.out (mem_ownL.1 hx)).1;have h2:=HRB.out;omega)));exact ⟨⟨k+1,(a+na),c3',A3',ts ++ [st],rfl,by go_num,by omega,HRN5,HO3,HR3,HK3⟩,by simp [intOf];omega⟩
    ·have hez:(er == 0)=false:=by simpa using her
     have HNO:=Lib.hid (show readT T L n=none from by
      have h1:readK T L (k+1)=none:=by rw [HRN.out,if_neg her]
      unfold readT;rw [readK_mono h1 (by omega)]
      rfl)
     have HK5:=Lib.hid (HK.out.trans' HKX.out (fun x hx=>.inr (by rw [List.mem_singleton.1 hx,HRB.out];exact Nat.le_refl _)));clear her hr5 hk5 HBK;go_wp2_with fail;go_ret2;exact ⟨HK5.out,.inl ⟨HNO.out,rfl⟩⟩
   ·have hrm0:0 < rm:=by omega
    obtain ⟨j,hj⟩:∃ j,k=j+1:=⟨k - 1,by have:=HRM.out;omega⟩;have HJ:=Lib.hid hj;have hkj:(k:Int) - 1=(j:Int):=by omega
    have hfd:decide (k % 8=0)=false:=by simp;have:=HRM.out;omega
    have HFD:=Lib.hid hfd;have hj0:(0:Int)≤(j:Int):=by omega
    have hj1:(j:Int) < (k:Int):=by omega
    clear hfd hj;go_wp2_with fail;refine (rrgam_any rb N cA a _ A0 false L wr HRR.out (HX.out.kp0 HK.out) HN.out hc haN hN24 (by rw [HRB.out];exact Nat.le_refl _)).mono ?_;rintro e w2 ⟨rfl,hr2,hk2⟩;obtain ⟨g,hg⟩:∃ g,g=(rGam L a false).1:=⟨_,rfl⟩;obtain ⟨a2,ha2⟩:∃ a2,a2=(rGam L a false).2.1:=⟨_,rfl⟩;obtain ⟨bad2,hb2⟩:∃ bad2,bad2=(rGam L a false).2.2:=⟨_,rfl⟩;have GR:=Lib.hid (show rGam L a false=(g,a2,bad2) from by rw [hg,ha2,hb2]);have ha2N:a2≤N:=by rw [ha2,← HN.out];exact rGam_le (by rw [HN.out];exact haN)
    have hgb:g≤2305843009213693952:=by
     rw [hg];unfold rGam
     split
     ·simp
     ·split
      ·simp
      ·rename_i h1 h2
       have h3:=valL_lt ((L.drop (a+zer (L.drop a))).take (zer (L.drop a)+1));have h4:((L.drop (a+zer (L.drop a))).take (zer (L.drop a)+1)).length≤60:=by rw [List.length_take];omega
       have h5:=Nat.pow_le_pow_right (show 1≤2 by omega) h4;have h6:(2:Nat) ^ 60≤2305843009213693952:=by decide
       simp only
       omega
    rw [← hg];rw [← ha2,← hb2] at hr2;have HR2:=Lib.hid hr2;have HK2:=Lib.hid hk2;have hxr:∀ x,(Value.slice A k c).ownBlock=some x→x ∉ [rb]:=fun x hx hm=>by have h1:=(own_ge HO.out hx).1;have h2:=List.mem_singleton.1 hm;omega
    have HO2:=Lib.hid (own_kp HO.out hk2 hxr);have HKW:=Lib.hid (HK.out.trans' hk2 (fun x hx=>.inr (by rw [List.mem_singleton.1 hx,HRB.out];exact Nat.le_refl _)));obtain ⟨hb0,hb1,hb2'⟩:=hr2.cells;obtain ⟨t,ad,ht,rfl,_,hct⟩:=(own_rd HO2.out).str (k:=j) (by rw [HOK.out.len,HJ.out];omega);have htz:t.size≤30000:=HOK.out.sz t (List.mem_of_getElem? ht);have HLT:=Lib.hid (show (ts.map txt).getLastD []=txt t from lastT (by rw [HOK.out.len,HJ.out]) ht);have HNX:=Lib.hid (show readK T L (k+1)=if (nextF T L a false (txt t) false).1.2=0 then some (ts ++ [strN (nextF T L a false (txt t) false).1.1],(nextF T L a false (txt t) false).2.1) else none from by rw [readK,HRK.out];simp only;rw [HFD.out,HLT.out]);clear hg ha2 hb2 hr2 hk2 hxr ht hb0 hb1
    cases bad2 with
    | true =>
      have HNO:=Lib.hid (show readT T L n=none from by
       have h1:readK T L (k+1)=none:=by
        rw [HNX.out,if_neg (by rw [nextF_bad T L a g a2 true (txt t) GR.out (.inl rfl)];decide)]
       unfold readT;rw [readK_mono h1 (by omega)]
       rfl)
      go_wp2_with fail;go_ret2;exact ⟨HKW.out,.inl ⟨HNO.out,rfl⟩⟩
    | false =>
      rcases g with _ | K
      ·have hq:decide ((t.size:Int) < -1)=false:=decide_eq_false (by omega)
       have HRN:=Lib.hid (show readK T L (k+1)=if (getF T L a2 false).2.1=0 then some (ts ++ [strN ((txt t).take 0 ++ (getF T L a2 false).1)],a2+(getF T L a2 false).2.2.1) else none from by
        rw [HNX.out,nextF_go T L a 0 a2 false (txt t) GR.out rfl (by rw [txt_len];omega),show (((0:Nat):Int) - 1).toNat=0 from by omega])
       clear HNX;go_wp2_with fail;refine (rget6_any lo hi p rb N cA a2 _ A0 false L T sg ls w2 (H.out.kp0 HKW.out) HR2.out (HX.out.kp0 HKW.out) HN.out hc ha2N hN24 (by rw [HRB.out];exact Nat.le_refl _) (by rw [HRB.out];exact HHI.out)).mono ?_;intro e w5 hp;have HBK:=Lib.hid (fun h=>getF_back H.out.1 (L:=L) (a:=a2) (by rw [HN.out];exact ha2N) h);have HOL:=Lib.hid (getF_out T L a2);obtain ⟨F,hF⟩:∃ F,F=getF T L a2 false:=⟨_,rfl⟩;rw [← hF] at hp HRN HBK HOL;clear hF;obtain ⟨ob,er,na,bad5⟩:=F;unfold RGetP at hp
       dsimp only at hp HRN HBK HOL
       obtain ⟨rfl,hr5,hk5⟩:=hp;have HKX:=Lib.hid (HK2.out.trans hk5);by_cases her:er=0
       ·subst her;obtain ⟨_,_,_,_,_,hbad,_⟩:=HBK.out rfl;subst hbad;have HRX:=Lib.hid hr5;clear hr5 hk5 HBK;obtain ⟨st,hst⟩:∃ st,st=strN ob:=⟨_,rfl⟩;have HST:=Lib.hid hst;rw [← hst];clear hst;rw [List.take_zero,List.nil_append,← HST.out] at HRN;clear hct hb2';have HRN5:=Lib.hid (show readK T L (k+1)=some (ts ++ [st],(a2+na)) from by rw [HRN.out];simp);have HO5:=Lib.hid (own_kp HO.out HKX.out (fun g hg hm=>by have h1:=(own_ge HO.out hg).1;have h2:=List.mem_singleton.1 hm;omega));have HSZ5:=Lib.hid (show rb+1≤w5.heap.size from Nat.le_trans (Blk.lt HRR.out) HKX.out.size);have HK5:=Lib.hid (HK.out.trans' HKX.out (fun x hx=>.inr (by rw [List.mem_singleton.1 hx,HRB.out];exact Nat.le_refl _)));clear HRR HK HO
        go_wp2_with (at_builtin;go_loud (refine wpList_append_rd rfl (.tmp 65) (.tmp 67) 22 rfl (rb+1) 9 i0 (.string ⟨#[]⟩) 1 16 Tryz.underlying22 hi0 hz0 hz1 hz2 rfl (by decide) (.slice (some ad) k c) (k) _ rfl (own_kp0 HO5.out ((Kp.refl [] _).alloc _)) _ _ 1 1 [.string st] rfl rfl (Rd.new w5 #[.string st] 9 (0,0)) (by intro u hu;simp at hu;subst hu;rfl) (by unfold maxLen;omega) (by omega) (by have:=HSZ5.out;simp;omega) ?_);intro v3 w3 hown3 hgrow3 hat3;obtain ⟨hka3,hga3⟩:=app_facts hgrow3 hat3;obtain ⟨A3',c3',rfl,_⟩:=own_form hown3)
        have HO3:=Lib.hid (show w3.ownsRow (rb+1) 9 1 (.slice A3' (k+1) c3') (k+1) ((ts ++ [st]).map .string) from by rw [List.map_append];exact hown3);have HR3:=Lib.hid (HRX.out.kp hka3 (fun hm=>by have h1:=(own_ge HO5.out (mem_ownL.1 hm)).1;omega));have HK3:=Lib.hid (HK5.out.trans' hka3 (fun x hx=>.inr (by have h1:=(own_ge HO5.out (mem_ownL.1 hx)).1;have h2:=HRB.out;omega)));exact ⟨⟨k+1,(a2+na),c3',A3',ts ++ [st],rfl,by go_num,by omega,HRN5,HO3,HR3,HK3⟩,by simp [intOf];omega⟩
       ·have hez:(er == 0)=false:=by simpa using her
        have HNO:=Lib.hid (show readT T L n=none from by
         have h1:readK T L (k+1)=none:=by rw [HRN.out,if_neg her]
         unfold readT;rw [readK_mono h1 (by omega)]
         rfl)
        have HK5:=Lib.hid (HK.out.trans' HKX.out (fun x hx=>.inr (by rw [List.mem_singleton.1 hx,HRB.out];exact Nat.le_refl _)));clear her hr5 hk5 HBK;go_wp2_with fail;go_ret2;exact ⟨HK5.out,.inl ⟨HNO.out,rfl⟩⟩
      ·by_cases hbig:t.size < K
       ·have hq:(t.size:Int) < (K:Int):=by omega
        have HWY:=Lib.hid (show ((txt t).length:Int) < ((K+1:Nat):Int) - 1 from by rw [txt_len];omega)
        have HNO:=Lib.hid (show readT T L n=none from by
         have h1:readK T L (k+1)=none:=by
          rw [HNX.out,if_neg (by rw [nextF_bad T L a (K+1) a2 false (txt t) GR.out (.inr HWY.out)];decide)]
         unfold readT;rw [readK_mono h1 (by omega)]
         rfl)
        go_wp2_with fail;go_ret2;exact ⟨HKW.out,.inl ⟨HNO.out,rfl⟩⟩
       ·have hq:decide (t.size < K)=false:=by simp;omega
        have HRN:=Lib.hid (show readK T L (k+1)=if (getF T L a2 false).2.1=0 then some (ts ++ [strN ((txt t).take K ++ (getF T L a2 false).1)],a2+(getF T L a2 false).2.2.1) else none from by
         rw [HNX.out,nextF_go T L a (K+1) a2 false (txt t) GR.out rfl (by rw [txt_len];omega),show ((((K+1):Nat):Int) - 1).toNat=K from by omega])
        clear HNX;go_wp2_with fail;refine (rget6_any lo hi p rb N cA a2 _ A0 false L T sg ls w2 (H.out.kp0 HKW.out) HR2.out (HX.out.kp0 HKW.out) HN.out hc ha2N hN24 (by rw [HRB.out];exact Nat.le_refl _) (by rw [HRB.out];exact HHI.out)).mono ?_;intro e w5 hp;have HBK:=Lib.hid (fun h=>getF_back H.out.1 (L:=L) (a:=a2) (by rw [HN.out];exact ha2N) h);have HOL:=Lib.hid (getF_out T L a2);obtain ⟨F,hF⟩:∃ F,F=getF T L a2 false:=⟨_,rfl⟩;rw [← hF] at hp HRN HBK HOL;clear hF;obtain ⟨ob,er,na,bad5⟩:=F;unfold RGetP at hp
        dsimp only at hp HRN HBK HOL
        obtain ⟨rfl,hr5,hk5⟩:=hp;have HKX:=Lib.hid (HK2.out.trans hk5);by_cases her:er=0
        ·subst her;obtain ⟨_,_,_,_,_,hbad,_⟩:=HBK.out rfl;subst hbad;have HRX:=Lib.hid hr5;clear hr5 hk5 HBK;obtain ⟨st,hst⟩:∃ st,st=strN ob:=⟨_,rfl⟩;have HST:=Lib.hid hst;rw [← hst];clear hst;clear hct hb2';by_cases hK0:K=0
         ·subst hK0;rw [List.take_zero,List.nil_append,← HST.out] at HRN;have HRN5:=Lib.hid (show readK T L (k+1)=some (ts ++ [st],(a2+na)) from by rw [HRN.out];simp);have HO5:=Lib.hid (own_kp HO.out HKX.out (fun g hg hm=>by have h1:=(own_ge HO.out hg).1;have h2:=List.mem_singleton.1 hm;omega));have HSZ5:=Lib.hid (show rb+1≤w5.heap.size from Nat.le_trans (Blk.lt HRR.out) HKX.out.size);have HK5:=Lib.hid (HK.out.trans' HKX.out (fun x hx=>.inr (by rw [List.mem_singleton.1 hx,HRB.out];exact Nat.le_refl _)));clear HRR HK HO
          go_wp2_with (at_builtin;go_loud (refine wpList_append_rd rfl (.tmp 65) (.tmp 67) 22 rfl (rb+1) 9 i0 (.string ⟨#[]⟩) 1 16 Tryz.underlying22 hi0 hz0 hz1 hz2 rfl (by decide) (.slice (some ad) k c) (k) _ rfl (own_kp0 HO5.out ((Kp.refl [] _).alloc _)) _ _ 1 1 [.string st] rfl rfl (Rd.new w5 #[.string st] 9 (0,0)) (by intro u hu;simp at hu;subst hu;rfl) (by unfold maxLen;omega) (by omega) (by have:=HSZ5.out;simp;omega) ?_);intro v3 w3 hown3 hgrow3 hat3;obtain ⟨hka3,hga3⟩:=app_facts hgrow3 hat3;obtain ⟨A3',c3',rfl,_⟩:=own_form hown3)
          have HO3:=Lib.hid (show w3.ownsRow (rb+1) 9 1 (.slice A3' (k+1) c3') (k+1) ((ts ++ [st]).map .string) from by rw [List.map_append];exact hown3);have HR3:=Lib.hid (HRX.out.kp hka3 (fun hm=>by have h1:=(own_ge HO5.out (mem_ownL.1 hm)).1;omega));have HK3:=Lib.hid (HK5.out.trans' hka3 (fun x hx=>.inr (by have h1:=(own_ge HO5.out (mem_ownL.1 hx)).1;have h2:=HRB.out;omega)));exact ⟨⟨k+1,(a2+na),c3',A3',ts ++ [st],rfl,by go_num,by omega,HRN5,HO3,HR3,HK3⟩,by simp [intOf];omega⟩
         ·obtain ⟨t',ad',ht',e',_,hct⟩:=(own_rd (own_kp HO.out HKX.out (fun g hg hm=>by have h1:=(own_ge HO.out hg).1;have h2:=List.mem_singleton.1 hm;omega))).str (k:=j) (by rw [HOK.out.len,HJ.out];omega);injection e' with e'
          subst e'
          have htt:t'=t:=by
           have h1:=HLT.out;rw [lastT (by rw [HOK.out.len,HJ.out]) ht'] at h1;exact txt_inj h1
          subst htt;have hKp:0 < K:=by omega
          have hKi:(K:Int)≤(t'.size:Int):=by omega
          have hKi0:(0:Int)≤(K:Int):=by omega
          have HSS:=Lib.hid (show t'.extract 0 K ++ st=strN ((txt t').take K ++ ob) from by
           rw [strN_app,HST.out,strN_of (show txt (t'.extract 0 K)=(txt t').take K from by rw [txt_extract,List.drop_zero,Nat.sub_zero])])
          rw [← HSS.out] at HRN;have hsz:st.size≤16777216:=by rw [HST.out,strN_size];have:=HOL.out;have:=HN.out;omega
          have hex:(t'.extract 0 K).size≤1000000:=by
           rw [← txt_len,txt_extract,List.length_take];have:=txt_len t';rw [List.drop_zero];omega
          clear ht';have HRN5:=Lib.hid (show readK T L (k+1)=some (ts ++ [(t'.extract 0 K ++ st)],(a2+na)) from by rw [HRN.out];simp);have HO5:=Lib.hid (own_kp HO.out HKX.out (fun g hg hm=>by have h1:=(own_ge HO.out hg).1;have h2:=List.mem_singleton.1 hm;omega));have HSZ5:=Lib.hid (show rb+1≤w5.heap.size from Nat.le_trans (Blk.lt HRR.out) HKX.out.size);have HK5:=Lib.hid (HK.out.trans' HKX.out (fun x hx=>.inr (by rw [List.mem_singleton.1 hx,HRB.out];exact Nat.le_refl _)));clear HRR HK HO
          go_wp2_with (at_builtin;go_loud (refine wpList_append_rd rfl (.tmp 65) (.tmp 67) 22 rfl (rb+1) 9 i0 (.string ⟨#[]⟩) 1 16 Tryz.underlying22 hi0 hz0 hz1 hz2 rfl (by decide) (.slice (some ad) k c) (k) _ rfl (own_kp0 HO5.out ((Kp.refl [] _).alloc _)) _ _ 1 1 [.string (t'.extract 0 K ++ st)] rfl rfl (Rd.new w5 #[.string (t'.extract 0 K ++ st)] 9 (0,0)) (by intro u hu;simp at hu;subst hu;rfl) (by unfold maxLen;omega) (by omega) (by have:=HSZ5.out;simp;omega) ?_);intro v3 w3 hown3 hgrow3 hat3;obtain ⟨hka3,hga3⟩:=app_facts hgrow3 hat3;obtain ⟨A3',c3',rfl,_⟩:=own_form hown3)
          have HO3:=Lib.hid (show w3.ownsRow (rb+1) 9 1 (.slice A3' (k+1) c3') (k+1) ((ts ++ [(t'.extract 0 K ++ st)]).map .string) from by rw [List.map_append];exact hown3);have HR3:=Lib.hid (HRX.out.kp hka3 (fun hm=>by have h1:=(own_ge HO5.out (mem_ownL.1 hm)).1;omega));have HK3:=Lib.hid (HK5.out.trans' hka3 (fun x hx=>.inr (by have h1:=(own_ge HO5.out (mem_ownL.1 hx)).1;have h2:=HRB.out;omega)));exact ⟨⟨k+1,(a2+na),c3',A3',ts ++ [(t'.extract 0 K ++ st)],rfl,by go_num,by omega,HRN5,HO3,HR3,HK3⟩,by simp [intOf];omega⟩
        ·have hez:(er == 0)=false:=by simpa using her
         have HNO:=Lib.hid (show readT T L n=none from by
          have h1:readK T L (k+1)=none:=by rw [HRN.out,if_neg her]
          unfold readT;rw [readK_mono h1 (by omega)]
          rfl)
         have HK5:=Lib.hid (HK.out.trans' HKX.out (fun x hx=>.inr (by rw [List.mem_singleton.1 hx,HRB.out];exact Nat.le_refl _)));clear her hr5 hk5 HBK;go_wp2_with fail;go_ret2;exact ⟨HK5.out,.inl ⟨HNO.out,rfl⟩⟩
  ·obtain rfl:k=n:=by omega
   have HRD:=Lib.hid (own_rd HO.out);have HLN:=Lib.hid HOK.out.len;have HCR:=Lib.hid (H.out.kp0 HK.out);go_wp2_with fail;refine (rfof_any lo hi p k c _ A ts T sg ls wr HCR.out HRD.out HLN.out hkb HOK.out.sz HOK.out.fb).mono ?_;rintro e w6 ⟨hk6,⟨hr6,rfl⟩ | ⟨_,⟨s,hs,hno⟩,_⟩ | ⟨hr6,_,f,At,Ab,As,ct,cb,cs,n',N',m',rfl,hrf⟩⟩
   ·have HNO:=Lib.hid (show readT T L k=none from by unfold readT;rw [HRK.out];simp [hr6]);have HK6:=Lib.hid (HK.out.trans hk6);clear hr6 hk6;go_wp2_with fail;go_ret2;exact ⟨HK6.out,.inl ⟨HNO.out,rfl⟩⟩
   ·obtain ⟨r,hr⟩:=HOK.out.en s hs;rw [hr] at hno
    cases hno
   ·have HR6:=Lib.hid hr6;have HK6:=Lib.hid (HK.out.trans hk6);have HRF:=Lib.hid hrf;have HLW:=Lib.hid (show w.heap.size≤wr.heap.size from HK.out.size);have hc1:w6.cell? ⟨f,1,none⟩=some (.slice Ab N' cb):=hrf.cells.2.1
    have hN'b:N'≤1000000000:=by
     rw [← hrf.nb];have h1:=HOK.out.fb ts.length;rw [List.take_of_length_le (Nat.le_refl _)] at h1;omega
    clear hr6 hk6 hrf;go_wp2_with fail;refine (rsame_any Ab A0 N' N cb cA _ _ (frontB T ts) L w6 HRF.out.rb (HX.out.kp0 HK6.out) HRF.out.nb HN.out hN'b).mono ?_;obtain ⟨D,hD⟩:∃ D,decide (frontB T ts=L)=D:=⟨_,rfl⟩;rw [hD];rintro e w7 ⟨rfl,hd7⟩;have HK7:=Lib.hid (HK6.out.trans (hd7.kp []))
    have HF7:=Lib.hid (show RfM w7 w.heap.size w7.heap.size f T ts At Ab As ct cb cs n' N' m' from by
     have h1:=(HRF.out.kp0 (hd7.kp [])).low HLW.out
     rwa [show w6.heap.size=w7.heap.size from hd7.size.symm] at h1)
    clear hd7 hc1
    cases D with
    | false =>
      have HNO:=Lib.hid (show readT T L k=none from by
       unfold readT;rw [HRK.out];have h1:¬ frontB T ts=L:=of_decide_eq_false hD
       simp [h1])
      clear hD;go_wp2_with fail;go_ret2;exact ⟨HK7.out,.inl ⟨HNO.out,rfl⟩⟩
    | true =>
      have HYES:=Lib.hid (show readT T L k=some ts from by
       unfold readT;rw [HRK.out];have h1:frontB T ts=L:=of_decide_eq_true hD
       simp [h1,HR6.out])
      clear hD;go_wp2_with fail;go_ret2;exact ⟨HK7.out,.inr ⟨ts,f,At,Ab,As,ct,cb,cs,n',N',m',HYES.out,rfl,HF7.out⟩⟩
end Go.Proofs.YtanacapkfllbnaaGreatDoor
namespace Go.Proofs.YtanacapkfllbnaaGreatDoor
open Go.RowKit PK

theorem natV_int (sg:List Nat):natV sg=(sg.map fun (x:Nat)=>(x:Int)).map (.int .i64):=by unfold natV;rw [List.map_map];rfl
theorem wideF_le24:∀ (l:List Int) (w:Nat),w≤24→(∀ x ∈ l,0≤x∧x < 16777216)→wideF w l≤24
 | [],w,hw,_=>hw
 | x :: l,w,hw,h=>by
   have h1:=h x (by simp);have h2:=dgt_le (x:=x.toNat) (k:=24) (by omega) (by omega) (by show x.toNat < 16777216;omega);exact wideF_le24 l (max w (dgt x.toNat)) (by omega) (fun y hy=>h y (List.mem_cons_of_mem _ hy))
theorem ofE_small {l:List Int} (hn:l.length≤4000) (h:∀ x ∈ l,0≤x∧x < 16777216):ofE l=0:=by
 have h1:okN l:=fun x hx=>by
  have h2:=h x hx;have h3:=dgt_le (x:=x.toNat) (k:=24) (by omega) (by omega) (by show x.toNat < 16777216;omega);exact ⟨h2.1,by omega⟩
 have h2:=wideF_le24 l 1 (by omega) h;have h3:=(wideF_le h1).1;unfold ofE newE;rw [if_pos h1,if_pos ⟨h1,by omega⟩];unfold errRow;rw [if_neg (by omega),if_neg];obtain ⟨k,hk⟩:∃ k,wideF 1 l=k:=⟨_,rfl⟩;rw [hk] at h2 h3 ⊢;have h4:(4000:Int)≤16777216 / (k:Int):=Int.le_ediv_of_mul_le (by omega) (by omega);omega
theorem Tryz.info_byS:(Tryz.prog.info? 5).map (fun i=>(i.zero,i.size,i.bytes))=some (some (.int .u8 0),1,1):=by kernel_rfl
def fourI (n:Nat):List Int:=[(n:Int) / 16777216,(n:Int) / 65536 % 256,(n:Int) / 256 % 256,(n:Int) % 256]
theorem sfour_any (n:Nat) (w:World) (hn:n≤2147483647):Calls Tryz.prog 31 #[.int .i64 (n:Int)] w fun e w'=>e=.returned (.slice (some ⟨w.heap.size,0,none⟩) 4 4)∧w'.ownsRow w.heap.size 5 1 (.slice (some ⟨w.heap.size,0,none⟩) 4 4) 4 ((fourI n).map (.int .u8))∧Kp [] w w':=by
 go_enter Tryz.func31,Tryz.ntmps31
 go_wp2_with fail;go_ret;exact ⟨rfl,⟨by simp [fourI],.inr ⟨_,4,#[.int .u8 ((n:Int) / 16777216),.int .u8 ((n:Int) / 65536 % 256),.int .u8 ((n:Int) / 256 % 256),.int .u8 ((n:Int) % 256)],rfl,Nat.le_refl _,Blk.new w 5 [.int .u8 ((n:Int) / 16777216),.int .u8 ((n:Int) / 65536 % 256),.int .u8 ((n:Int) / 256 % 256),.int .u8 ((n:Int) % 256)],Nat.le_refl _,by decide,by simp,by simp [fourI]⟩⟩,(Kp.refl [] w).alloc _⟩
def wdS (T:CT) (ts:List ByteArray):Nat:=wideF 1 ((startsN T ts).map fun (x:Nat)=>(x:Int))
def secR (T:CT) (sg:List Nat) (ls:List Int) (ts:List ByteArray):List (List Int):=[fourI ts.length,bytesN (bitN (setL (List.replicate 257 false) true (sg.map fun (x:Nat)=>(x:Int)))) 33,ls.map (· % 256),fourI (frontB T ts).length,bytesN (bitN (frontB T ts)) (((frontB T ts).length+7) / 8),[(wdS T ts:Int)],PK.bytesN (PK.packN (wdS T ts) (startsN T ts)) ((wdS T ts * (startsN T ts).length+7) / 8)]
def secB (T:CT) (sg:List Nat) (ls:List Int) (ts:List ByteArray):List Int:=(secR T sg ls ts).flatten
theorem swrites_any (lo hi lo' hi' f p:Nat) (S:List Nat) (T:CT) (sg:List Nat) (ls:List Int) (ts:List ByteArray) (w:World) (h:Fro w lo hi lo' hi' S f p T sg ls ts) (hn:ts.length≤30000) (hb:(frontB T ts).length≤9000000) :
  Calls Tryz.prog 35 #[.pointer (some ⟨p,0,none⟩),.pointer (some ⟨f,0,none⟩)] w fun e w'=>∃ (g m c:Nat) (bs:List Int),e=.returned (.slice (some ⟨g,0,none⟩) m c)∧bs=secB T sg ls ts∧bs.length=m∧m≤10000000∧w'.ownsRow w.heap.size 5 1 (.slice (some ⟨g,0,none⟩) m c) m (bs.map (.int .u8))∧Kp [] w w':=by
 obtain ⟨i0,hi0,hz0,hz1,hz2⟩:=info_parts Tryz.info_byS;have HF:=Lib.hid h;have HC:=Lib.hid h.cd;have h0:=Lib.hid (show (hi≤w.heap.size∧hi'≤w.heap.size)∧(∀ g ∈ S,g < w.heap.size)∧0 < w.heap.size from ⟨⟨h.hw.2,h.hw.1⟩,h.lt,h.tab.lt⟩);clear h
 go_enter Tryz.func35,Tryz.ntmps35
 go_wp2_with fail;refine (bnew_any 257 w (by omega)).mono ?_;rintro e w1 ⟨Sv,pv,rfl,hv1,hS1,hk1⟩;have HV:=Lib.hid hv1;have HVN:=Lib.hid hS1;have HK:=Lib.hid hk1;replace HF:=Lib.hid (HF.out.kp0 hk1);replace HC:=Lib.hid (HC.out.kp0 hk1);clear hk1;clear hv1 hS1;go_wp2_with fail;refine (csigns_any lo' hi' p T sg ls w1 HC.out).mono ?_;rintro e w2 ⟨As,ns,cs,hns,rfl,hown2,hk2⟩;have HNS:=Lib.hid hns;have hnsb:ns≤257:=by rw [hns];exact codeT_len HC.out.1
 have HR2:=Lib.hid (show Rd w2 w2.heap.size As ((sg.map fun (x:Nat)=>(x:Int)).map (.int .i64)) from by rw [← natV_int];exact own_rd hown2)
 have HA2:=Lib.hid (show ∀ ad,As=some ad→ad.block ∉ Sv from fun ad e hm=>by
  obtain ⟨_,_,he,_,_,_,hA⟩:=own_form hown2;injection he with e1 e2 e3
  subst e1;have h1:=(hA ad e).2.2.1;have h2:=HV.out.lt _ hm
  omega)
 replace HV:=Lib.hid (HV.out.kp0 hk2);replace HK:=Lib.hid (HK.out.trans hk2);replace HF:=Lib.hid (HF.out.kp0 hk2);replace HC:=Lib.hid (HC.out.kp0 hk2);clear hk2;clear hns hown2;go_wp2_with fail;refine (vset_any Sv pv 257 ns cs _ true As (sg.map fun (x:Nat)=>(x:Int)) (List.replicate 257 false) false w2 HV.out (by simp) HR2.out (by rw [List.length_map,HNS.out]) (by omega) HA2.out).mono ?_;intro e w3 hcases
 have hbad:badL 257 (sg.map fun (x:Nat)=>(x:Int))=false:=by
  unfold badL;refine List.any_eq_false.2 (fun x hx=>?_);obtain ⟨y,hy,rfl⟩:=List.mem_map.1 hx;have:=HC.out.1.2.2.2.1 y hy
  simp
  omega
 rcases hcases with ⟨hb1,_⟩ | ⟨_,rfl,hv3,hk3⟩
 ·rw [hbad] at hb1;cases hb1
 obtain ⟨bs',hbs'⟩:∃ bs',bs'=setL (List.replicate 257 false) true (sg.map fun (x:Nat)=>(x:Int)):=⟨_,rfl⟩;rw [← hbs'] at hv3;have hbl:bs'.length=257:=by rw [hbs',setL_len];simp
 have HBQ:=Lib.hid hbs';obtain ⟨cf',hcf'⟩:∃ cf',cf'=false:=⟨_,rfl⟩;rw [← hcf'] at hv3;clear hcf' hbs' hbad;have HV3:=Lib.hid hv3;have HBL:=Lib.hid hbl
 have HF3:=Lib.hid (show Fro w3 lo hi lo' hi' S f p T sg ls ts from HF.out.kp hk3 (fun g hg=>by
  have h1:=HVN.out g hg;have h2:=h0.out.1;have h3:=h0.out.2.1;have h4:=h0.out.2.2;refine ⟨fun hm=>?_,.inr (by omega),.inr (by omega),fun e=>by omega⟩;have:=h3 g hm
  omega))
 have HK3:=Lib.hid (HK.out.trans' hk3 (fun x hx=>.inr (HVN.out x hx)));clear hv3 hbl hk3 HV HF HC HR2 HA2 HNS HK;have HC3:=Lib.hid HF3.out.cd;go_wp2_with fail;refine (fstarts_any w3 HF3.out.fr (by omega)).mono ?_;rintro e w4 ⟨A4,m4,c4,hm4,rfl,hown4,hk4⟩;have HR4:=Lib.hid (show Rd w4 w4.heap.size A4 (((startsN T ts).map fun (x:Nat)=>(x:Int)).map (.int .i64)) from by rw [← natV_int];exact own_rd hown4);have HM4:=Lib.hid hm4;have hm4b:m4≤4000:=by rw [hm4,starts_len];omega
 replace HK3:=Lib.hid (HK3.out.trans hk4);replace HF3:=Lib.hid (HF3.out.kp0 hk4);replace HC3:=Lib.hid (HC3.out.kp0 hk4);replace HV3:=Lib.hid (HV3.out.kp0 hk4);clear hk4;clear hm4 hown4
 have HSM:=Lib.hid (show ∀ x ∈ ((startsN T ts).map fun (x:Nat)=>(x:Int)),0≤x∧x < 16777216 from fun x hx=>by
  obtain ⟨y,hy,rfl⟩:=List.mem_map.1 hx;unfold startsN at hy;obtain ⟨b,_,rfl⟩:=List.mem_map.1 hy;have:=frontB_mono T ts (8 * b)
  omega)
 have HOE:=Lib.hid (ofE_small (l:=(startsN T ts).map fun (x:Nat)=>(x:Int)) (by rw [List.length_map,← HM4.out];omega) HSM.out);go_wp2_with fail;refine (of_any A4 m4 c4 _ ((startsN T ts).map fun (x:Nat)=>(x:Int)) w4 HR4.out (by rw [List.length_map,HM4.out]) (by omega) (fun x hx=>by have:=HSM.out x hx;omega)).mono ?_;rintro e w5 ⟨hk5,⟨hne,_⟩ | ⟨_,hok,rp,rfl,hrow⟩⟩
 ·exact absurd HOE.out hne
 have HW5:=Lib.hid hrow;obtain ⟨wd,hwd⟩:∃ wd,wd=wideF 1 ((startsN T ts).map fun (x:Nat)=>(x:Int)):=⟨_,rfl⟩;rw [← hwd] at HW5;have hwdb:wd≤24:=by rw [hwd];exact wideF_le24 _ 1 (by omega) HSM.out
 have HWD:=Lib.hid (show wd=wdS T ts from hwd);replace HK3:=Lib.hid (HK3.out.trans hk5);replace HF3:=Lib.hid (HF3.out.kp0 hk5);replace HC3:=Lib.hid (HC3.out.kp0 hk5);replace HV3:=Lib.hid (HV3.out.kp0 hk5);clear hk5;clear hrow hok hwd HR4 HSM HOE;go_wp2_with fail;refine (fbits_any w5 HF3.out.fr).mono ?_;rintro e w6 ⟨⟨V6,q6,rfl,hv6,hV6⟩,hk6⟩;have HQ6:=Lib.hid hv6;replace HK3:=Lib.hid (HK3.out.trans hk6);replace HW5:=Lib.hid (HW5.out.kp0 hk6);replace HF3:=Lib.hid (HF3.out.kp0 hk6);replace HC3:=Lib.hid (HC3.out.kp0 hk6);replace HV3:=Lib.hid (HV3.out.kp0 hk6);clear hk6;clear hv6 hV6;go_wp2_with fail;refine (clengths_any lo' hi' p T sg ls w6 HC3.out).mono ?_;rintro e w7 ⟨A7,n7,c7,hn7,rfl,hown7,hk7⟩;have HR7:=Lib.hid (own_rd hown7);have HN7:=Lib.hid hn7;have hn7b:n7≤257:=by rw [hn7,← HC3.out.lens];exact codeT_len HC3.out.1
 replace HK3:=Lib.hid (HK3.out.trans hk7);replace HW5:=Lib.hid (HW5.out.kp0 hk7);replace HF3:=Lib.hid (HF3.out.kp0 hk7);replace HC3:=Lib.hid (HC3.out.kp0 hk7);replace HV3:=Lib.hid (HV3.out.kp0 hk7);replace HQ6:=Lib.hid (HQ6.out.kp0 hk7);clear hk7;clear hn7 hown7;go_wp2_with fail
 go_loopw [10,32] (fun v x wr=>∃ (k c:Nat) (A:Option Addr) (bs:List Int),v=.slice A k c∧x=.int .i64 (k:Int)∧k≤n7∧bs.length=k∧Hid (bs=(ls.take k).map (· % 256))∧Hid (wr.ownsRow w7.heap.size 5 1 (.slice A k c) k (bs.map (.int .u8)))∧Hid (Kp [] w7 wr)) (fun _ x _=>n7 - (intOf x).toNat)
 case atStart=>exact ⟨0,0,none,[],rfl,rfl,by omega,rfl,Lib.hid (by simp),Lib.hid (World.ownsRow_nil _ _ _ 1),Lib.hid (Kp.refl _ _)⟩
 case round =>
  obtain ⟨k,c,A,bs,rfl,rfl,hk,hbs,HBE,HO,HKR⟩:=hrel;by_cases hlt:k < n7
  ·obtain ⟨y,hy⟩:∃ y,ls[k]? = some y:=⟨_,List.getElem?_eq_getElem (by rw [← HN7.out];exact hlt)⟩;obtain ⟨ad,rfl,_,hcy⟩:=(HR7.out.kp0 HKR.out).at_ (i:=k) (u:=.int .i64 y) (by rw [List.getElem?_map,hy];rfl);have hb0:(0:Int)≤(k:Int):=by omega
   have hb1:(k:Int) < (n7:Int):=by omega
   have HSZ:=Lib.hid HKR.out.size;have HBE2:=Lib.hid (show bs ++ [y % 256]=(ls.take (k+1)).map (· % 256) from by rw [HBE.out,List.take_add_one,hy,List.map_append];rfl);clear hy
   go_wp2_with (at_builtin;go_loud (refine wpList_append_rd rfl (.tmp 36) (.tmp 39) 41 rfl (w7.heap.size) 5 i0 (.int .u8 0) 1 1 Tryz.underlying41 hi0 hz0 hz1 hz2 rfl (by decide) (.slice A k c) (k) _ rfl (own_kp0 HO.out ((Kp.refl [] _).alloc _)) _ _ 1 1 [.int .u8 (y % 256)] rfl rfl (Rd.new wr #[.int .u8 (y % 256)] 5 (0,0)) (by intro u hu;simp at hu;subst hu;rfl) (by unfold maxLen;omega) (by omega) (by have:=HSZ.out;simp;omega) ?_);intro v3 w3 hown3 hgrow3 hat3;obtain ⟨hka3,hga3⟩:=app_facts hgrow3 hat3;obtain ⟨A3',c3',rfl,_⟩:=own_form hown3)
   exact ⟨⟨k+1,c3',A3',bs ++ [y % 256],rfl,by go_num,by omega,by simp [hbs],HBE2,Lib.hid (by rw [List.map_append];exact hown3),Lib.hid (HKR.out.trans' hka3 (fun x hx=>.inr (own_ge HO.out (mem_ownL.1 hx)).1))⟩,by simp [intOf];omega⟩
  ·obtain rfl:k=n7:=by omega
   replace HF3:=Lib.hid (HF3.out.kp0 HKR.out);replace HV3:=Lib.hid (HV3.out.kp0 HKR.out);replace HQ6:=Lib.hid (HQ6.out.kp0 HKR.out);replace HW5:=Lib.hid (HW5.out.kp0 HKR.out);replace HK3:=Lib.hid (HK3.out.trans HKR.out);have HRL:=Lib.hid (own_rd HO.out);have hkc:k≤c:=by obtain ⟨_,_,hv9,hkc,_⟩:=own_form HO.out;injection hv9 with e1 e2 e3;omega
   obtain ⟨N,hN⟩:∃ N,(frontB T ts).length=N:=⟨_,rfl⟩;obtain ⟨n,hnn⟩:∃ n,ts.length=n:=⟨_,rfl⟩;have HN:=Lib.hid hN;have HNN:=Lib.hid hnn;rw [hN] at hb;rw [hnn] at hn;clear HKR HO HR7 hN hnn;go_wp2_with fail;refine (flen_any n wr HF3.out.fr HNN.out).mono ?_;rintro e w8 ⟨rfl,rfl⟩;go_wp2_with fail;refine (sfour_any n wr (by omega)).mono ?_;rintro e w8 ⟨rfl,hown8,hk8⟩;have HR8:=Lib.hid (own_rd hown8);replace HRL:=Lib.hid ((HRL.out.kp0 hk8).bound hk8.size);replace HK3:=Lib.hid (HK3.out.trans hk8);replace HW5:=Lib.hid (HW5.out.kp0 hk8);replace HF3:=Lib.hid (HF3.out.kp0 hk8);replace HV3:=Lib.hid (HV3.out.kp0 hk8);replace HQ6:=Lib.hid (HQ6.out.kp0 hk8);clear hk8;obtain ⟨b8,hb8⟩:∃ b8,wr.heap.size=b8:=⟨_,rfl⟩;rw [hb8] at HR8 ⊢;clear hown8 hb8;go_wp2_with fail;refine (vbytes_any Sv pv bs' cf' w8 HV3.out).mono ?_;rintro e w9 ⟨A9,m9,c9,hm9,rfl,hown9,hk9⟩;have HR9:=Lib.hid (own_rd hown9);have HM9:=Lib.hid hm9;have hm9b:m9≤100:=by rw [hm9,HBL.out];omega
   replace HRL:=Lib.hid ((HRL.out.kp0 hk9).bound hk9.size);replace HR8:=Lib.hid ((HR8.out.kp0 hk9).bound hk9.size);replace HK3:=Lib.hid (HK3.out.trans hk9);replace HW5:=Lib.hid (HW5.out.kp0 hk9);replace HQ6:=Lib.hid (HQ6.out.kp0 hk9);clear hk9;have hc9:m9≤c9:=by obtain ⟨_,_,hv9,hkc,_⟩:=own_form hown9;injection hv9 with e1 e2 e3;omega
   clear hm9 hown9 HV3 HF3;go_wp2_with fail;refine (vlen_any V6 q6 N (frontB T ts) false w9 HQ6.out HN.out).mono ?_;rintro e w10 ⟨rfl,rfl⟩;go_wp2_with fail;refine (sfour_any N w9 (by omega)).mono ?_;rintro e w10 ⟨rfl,hown10,hk10⟩;have HR10:=Lib.hid (own_rd hown10);replace HRL:=Lib.hid ((HRL.out.kp0 hk10).bound hk10.size);replace HR8:=Lib.hid ((HR8.out.kp0 hk10).bound hk10.size);replace HR9:=Lib.hid ((HR9.out.kp0 hk10).bound hk10.size);replace HK3:=Lib.hid (HK3.out.trans hk10);replace HW5:=Lib.hid (HW5.out.kp0 hk10);replace HQ6:=Lib.hid (HQ6.out.kp0 hk10);clear hk10;obtain ⟨b10,hb10⟩:∃ b10,w9.heap.size=b10:=⟨_,rfl⟩;rw [hb10] at HR10 ⊢;clear hown10 hb10;go_wp2_with fail;refine (vbytes_any V6 q6 (frontB T ts) false w10 HQ6.out).mono ?_;rintro e w11 ⟨A11,m11,c11,hm11,rfl,hown11,hk11⟩;have HR11:=Lib.hid (own_rd hown11);have HM11:=Lib.hid hm11;have hm11b:m11≤2000000:=by rw [hm11,HN.out];omega
   replace HRL:=Lib.hid ((HRL.out.kp0 hk11).bound hk11.size);replace HR8:=Lib.hid ((HR8.out.kp0 hk11).bound hk11.size);replace HR9:=Lib.hid ((HR9.out.kp0 hk11).bound hk11.size);replace HR10:=Lib.hid ((HR10.out.kp0 hk11).bound hk11.size);replace HK3:=Lib.hid (HK3.out.trans hk11);replace HW5:=Lib.hid (HW5.out.kp0 hk11);have hc11:m11≤c11:=by obtain ⟨_,_,hv9,hkc,_⟩:=own_form hown11;injection hv9 with e1 e2 e3;omega
   clear hm11 hown11 HQ6 hk11;go_wp2_with fail;refine (rwide_any _ rp wd _ w11 HW5.out).mono ?_;rintro e w12 ⟨rfl,rfl⟩;go_wp2_with fail;obtain ⟨w12,hw12⟩:∃ w12,w12=w11.alloc (.cells #[.int .u8 (wd:Int)] 5):=⟨_,rfl⟩;have hk12:Kp [] w11 w12:=by rw [hw12];exact (Kp.refl [] w11).alloc _
   obtain ⟨b12,hb12⟩:∃ b12,b12=w11.heap.size:=⟨_,rfl⟩;have hr12:=Rd.new w11 #[.int .u8 (wd:Int)] 5 (0,0);rw [← hw12,← hb12] at hr12;have HR12:=Lib.hid (Rd.bound (show Rd w12 (b12+1) (some ⟨b12,0,none⟩) ([(wd:Int)].map (.int .u8)) from hr12) (show b12+1≤w12.heap.size from by rw [hw12,hb12];simp));rw [← hw12];replace HRL:=Lib.hid ((HRL.out.kp0 hk12).bound hk12.size);replace HR8:=Lib.hid ((HR8.out.kp0 hk12).bound hk12.size);replace HR9:=Lib.hid ((HR9.out.kp0 hk12).bound hk12.size);replace HR10:=Lib.hid ((HR10.out.kp0 hk12).bound hk12.size);replace HR11:=Lib.hid ((HR11.out.kp0 hk12).bound hk12.size);replace HK3:=Lib.hid (HK3.out.trans hk12);replace HW5:=Lib.hid (HW5.out.kp0 hk12)
   try rw [← hb12]
   clear hw12 hr12 hb12 hk12;refine (PK.rbytes_any _ rp wd _ w12 HW5.out).mono ?_;rintro e w13 ⟨A13,m13,c13,hm13,rfl,hown13,hk13⟩;have HR13:=Lib.hid (own_rd hown13)
   have hm13b:m13≤100000:=by
    rw [hm13,List.length_map,List.length_map,← HM4.out];have h1:wd * m4≤24 * 4000:=Nat.mul_le_mul hwdb hm4b;omega
   have hc13:m13≤c13:=by obtain ⟨_,_,hv9,hkc,_⟩:=own_form hown13;injection hv9 with e1 e2 e3;omega
   have hz:=hk13.size;have HZZ:=Lib.hid hz;replace HRL:=Lib.hid ((HRL.out.kp0 hk13).bound hk13.size);replace HR8:=Lib.hid ((HR8.out.kp0 hk13).bound hk13.size);replace HR9:=Lib.hid ((HR9.out.kp0 hk13).bound hk13.size);replace HR10:=Lib.hid ((HR10.out.kp0 hk13).bound hk13.size);replace HR11:=Lib.hid ((HR11.out.kp0 hk13).bound hk13.size);replace HR12:=Lib.hid ((HR12.out.kp0 hk13).bound hk13.size);replace HK3:=Lib.hid (HK3.out.trans hk13);have HM13:=Lib.hid hm13;clear hm13 hown13 hk13 hz HW5;go_wp2_with fail;obtain ⟨w14,hw14⟩:∃ w14,w14=w13.alloc (.cells #[.slice (some ⟨b8,0,none⟩) 4 4,.slice A9 m9 c9,.slice A k c,.slice (some ⟨b10,0,none⟩) 4 4,.slice A11 m11 c11,.slice (some ⟨b12,0,none⟩) 1 1,.slice A13 m13 c13] 41):=⟨_,rfl⟩;have hk14:Kp [] w13 w14:=by rw [hw14];exact (Kp.refl [] w13).alloc _
   obtain ⟨b14,hb14⟩:∃ b14,b14=w13.heap.size:=⟨_,rfl⟩;obtain ⟨zs,hzs⟩:∃ zs,zs=PK.bytesN (PK.packN wd (List.map Int.toNat ((startsN T ts).map fun (x:Nat)=>(x:Int)))) m13:=⟨_,rfl⟩;have hzl:zs.length=m13:=by rw [hzs];simp [PK.bytesN]
   have HR13':=Lib.hid (show Rd w13 w13.heap.size A13 (zs.map (.int .u8)) from by rw [hzs];exact HR13.out);obtain ⟨xss,hxss⟩:∃ xss:List (List Int),xss=[fourI n,bytesN (bitN bs') m9,bs,fourI N,bytesN (bitN (frontB T ts)) m11,[(wd:Int)],zs]:=⟨_,rfl⟩
   have HRR:=Lib.hid (show RdRows w14 w14.heap.size .u8 (some ⟨b14,0,none⟩) xss from by
    have hr14:=Rd.new w13 #[.slice (some ⟨b8,0,none⟩) 4 4,.slice A9 m9 c9,.slice A k c,.slice (some ⟨b10,0,none⟩) 4 4,.slice A11 m11 c11,.slice (some ⟨b12,0,none⟩) 1 1,.slice A13 m13 c13] 41 (0,0);rw [← hw14,← hb14] at hr14;refine ⟨_,?_,Rd.bound hr14 (by rw [hw14,hb14];simp),fun i xs hi=>?_⟩
    ·rw [hxss];rfl
    ·rw [hxss] at hi;rcases i with _ | _ | _ | _ | _ | _ | _ | i
     ·injection hi with hi;subst hi;exact ⟨_,_,rfl,Nat.le_refl _,(HR8.out.kp0 hk14).bound hk14.size⟩
     ·injection hi with hi;subst hi;exact ⟨_,_,by rw [bytesN_len];rfl,by rw [bytesN_len];exact hc9,(HR9.out.kp0 hk14).bound hk14.size⟩
     ·injection hi with hi;subst hi;exact ⟨_,_,by rw [hbs];rfl,by rw [hbs];exact hkc,(HRL.out.kp0 hk14).bound hk14.size⟩
     ·injection hi with hi;subst hi;exact ⟨_,_,rfl,Nat.le_refl _,(HR10.out.kp0 hk14).bound hk14.size⟩
     ·injection hi with hi;subst hi;exact ⟨_,_,by rw [bytesN_len];rfl,by rw [bytesN_len];exact hc11,(HR11.out.kp0 hk14).bound hk14.size⟩
     ·injection hi with hi;subst hi;exact ⟨_,_,rfl,Nat.le_refl _,(HR12.out.kp0 hk14).bound hk14.size⟩
     ·injection hi with hi;subst hi;exact ⟨_,_,by rw [hzl];rfl,by rw [hzl];exact hc13,(HR13'.out.kp0 hk14).bound hk14.size⟩
     ·cases hi)
   have hfl:xss.flatten.length≤10000000∧4≤xss.flatten.length:=by
    rw [hxss];simp only [List.flatten_cons,List.flatten_nil,List.length_append,bytesN_len,hbs,hzl,fourI,List.length_cons,List.length_nil]
    omega
   have hxl:xss.length=7:=by rw [hxss];rfl
   have HXL:=Lib.hid hxl
   have HXE:=Lib.hid (show xss.flatten=secB T sg ls ts from by
    unfold secB secR
    rw [hxss,hzs,HNN.out,HN.out,HBE.out,List.take_of_length_le (by rw [← HN7.out];exact Nat.le_refl _),← HBQ.out,← HWD.out,HM9.out,HBL.out,HM11.out,HN.out,HM13.out,List.length_map,List.length_map,List.map_map,show (Int.toNat ∘ fun (x:Nat)=>(x:Int))=id from rfl,List.map_id])
   have HK14:=Lib.hid (HK3.out.trans hk14);rw [← hw14]
   try rw [← hb14]
   clear hxss hw14 hk14 hzs hb14 HR13 HR13' HRL HR8 HR9 HR10 HR11 HR12 HK3 hxl;refine (concatB (some ⟨b14,0,none⟩) 7 7 _ xss w14 HRR.out HXL.out (by omega) (by omega)).mono ?_;rintro e w15 ⟨A15,c15,rfl,hown15,hk15⟩;obtain ⟨M,hM⟩:∃ M,xss.flatten.length=M:=⟨_,rfl⟩;rw [hM] at hown15 hfl ⊢;rcases own_blk hown15 with ⟨_,hz0,_⟩ | ⟨g,cap,rest,hv,_⟩
   ·omega
   injection hv with hv1 hv2 hv3
   subst hv1;have HO:=Lib.hid (own_base hown15 HK14.out.size);have HK15:=Lib.hid (HK14.out.trans hk15);have HM:=Lib.hid hM;clear hown15 hk15 hM hv2 hv3;go_wp2_with fail;go_ret;exact ⟨g,M,c15,xss.flatten,rfl,HXE.out,HM.out,hfl.1,HO.out,HK15.out⟩
end Go.Proofs.YtanacapkfllbnaaGreatDoor
namespace Go.Proofs.YtanacapkfllbnaaGreatDoor
open Go.RowKit

theorem rpieces_any (A:Option Addr) (n c B:Nat) (ts:List ByteArray) (w:World) (hx:Rd w B A (ts.map .string)) (hn:ts.length=n) (hb:n≤1000000) (hs:∀ s ∈ ts,s.size≤1000000000) :
  Calls Tryz.prog 42 #[.slice A n c] w fun e w'=>∃ (Ao:Option Addr) (co:Nat),e=.returned (.slice Ao n co)∧w'.ownsRow w.heap.size 9 1 (.slice Ao n co) n ((piecesL ts n).map .string)∧Kp [] w w':=by
 obtain ⟨i0,hi0,hz0,hz1,hz2⟩:=info_parts Tryz.info_strS;have HX:=Lib.hid hx;clear hx;have HN:=Lib.hid hn;clear hn;have HS:=Lib.hid hs;clear hs
 go_enter Tryz.func42,Tryz.ntmps42
 go_wp2_with fail
 go_loopw [3,4] (fun v x wr=>∃ (k co:Nat) (Ao:Option Addr),v=.slice Ao k co∧x=.int .i64 (k:Int)∧k≤n∧Hid (wr.ownsRow w.heap.size 9 1 (.slice Ao k co) k ((piecesL ts k).map .string))∧Hid (Kp [] w wr)) (fun _ x _=>n - (intOf x).toNat)
 case atStart=>exact ⟨0,0,none,rfl,rfl,by omega,Lib.hid (World.ownsRow_nil _ _ _ 1),Lib.hid (Kp.refl _ _)⟩
 case round =>
  obtain ⟨k,co,Ao,rfl,rfl,hk,HO,HK⟩:=hrel;by_cases hlt:k < n
  ·obtain ⟨s,ad,hs,rfl,_,hcs⟩:=(HX.out.kp0 HK.out).str (k:=k) (by rw [HN.out];exact hlt);have hb0:(0:Int)≤(k:Int):=by omega
   have hb1:(k:Int) < (n:Int):=by omega
   have hsz:=HS.out s (List.mem_of_getElem? hs);obtain ⟨rm,hrm⟩:∃ rm,rm=k % 8:=⟨_,rfl⟩;have HRM:=Lib.hid hrm;have htm:Int.tmod (k:Int) 8=(rm:Int):=by rw [Int.tmod_eq_emod_of_nonneg (by omega)];omega
   have HSK:=Lib.hid hs;clear hs hrm;by_cases hz:rm=0
   ·have htm0:Int.tmod (k:Int) 8=0:=by rw [htm,hz];rfl
    have HPX:=Lib.hid (pieceS_first HSK.out (show k % 8=0 by have:=HRM.out;omega));have HKX:=Lib.hid (Kp.refl [] wr);clear htm;have HOX:=Lib.hid (own_kp0 HO.out HKX.out);have HSX:=Lib.hid (show w.heap.size≤wr.heap.size from Nat.le_trans HK.out.size HKX.out.size);have HKW:=Lib.hid (HK.out.trans HKX.out);clear HO HK
    go_wp2_with (at_builtin;go_loud (refine wpList_append_rd rfl (.tmp 25) (.tmp 32) 22 rfl (w.heap.size) 9 i0 (.string ⟨#[]⟩) 1 16 Tryz.underlying22 hi0 hz0 hz1 hz2 rfl (by decide) (.slice Ao k co) (k) _ rfl (own_kp0 HOX.out ((Kp.refl [] _).alloc _)) _ _ 1 1 [.string s] rfl rfl (Rd.new wr #[.string s] 9 (0,0)) (by intro u hu;simp at hu;subst hu;rfl) (by unfold maxLen;omega) (by omega) (by have:=HSX.out;simp;omega) ?_);intro v3 w3 hown3 hgrow3 hat3;obtain ⟨hka3,hga3⟩:=app_facts hgrow3 hat3;obtain ⟨A3',c3',rfl,_⟩:=own_form hown3)
    exact ⟨⟨k+1,c3',A3',rfl,by go_num,by omega,Lib.hid (by rw [piecesL_succ,List.map_append,HPX.out];exact hown3),Lib.hid (HKW.out.trans' hka3 (fun x hx=>.inr (own_ge HOX.out (mem_ownL.1 hx)).1))⟩,by simp [intOf];omega⟩
   ·have hrm0:0 < rm:=by omega
    obtain ⟨j,hj⟩:∃ j,k=j+1:=⟨k - 1,by have:=HRM.out;omega⟩;have hkj:(k:Int) - 1=(j:Int):=by omega
    have hj0:(0:Int)≤(j:Int):=by omega
    have hj1:(j:Int) < (n:Int):=by omega
    obtain ⟨t,ad',ht,e',_,hct⟩:=(HX.out.kp0 HK.out).str (k:=j) (by rw [HN.out];omega);injection e' with e'
    subst e';have htz:=HS.out t (List.mem_of_getElem? ht)
    have HPX:=Lib.hid (show pieceS ts k=s.extract (alikeN (txt t) (txt s)) s.size from by
     have h1:=HSK.out;have h2:=HRM.out;rw [hj] at h1 ⊢
     exact pieceS_rest h1 ht (by omega))
    obtain ⟨al,hal⟩:∃ al,alikeN (txt t) (txt s)=al:=⟨_,rfl⟩;have hals:al≤s.size:=by rw [← hal,← txt_len];exact (alikeN_le _ _).2.1
    have hals2:(al:Int)≤(s.size:Int):=by omega
    have hal0:(0:Int)≤(al:Int):=by omega
    have HAL:=Lib.hid hal;have HLK:=Lib.hid (fun w'=>ralike_any t s w' (by omega) (by omega));rw [HAL.out] at HLK;rw [hal] at HPX;clear ht hj hal;go_wp2_with fail
    go_quiet ((go_at_call 90;exact quiet_dr (HLK.out _)))
    obtain ⟨w7,hw7⟩:∃ w7,w7=wr.drewN nq:=⟨_,rfl⟩;rw [← hw7];have HKX:=Lib.hid (show Kp [] wr w7 from hw7 ▸ (Kp.refl _ _).drewN nq);have hcs7:w7.cell? (ad.add k)=some (.string s):=HKX.out.cell hcs (by simp);clear hw7 hct hcs HLK htm;have HOX:=Lib.hid (own_kp0 HO.out HKX.out);have HSX:=Lib.hid (show w.heap.size≤w7.heap.size from Nat.le_trans HK.out.size HKX.out.size);have HKW:=Lib.hid (HK.out.trans HKX.out);clear HO HK
    go_wp2_with (at_builtin;go_loud (refine wpList_append_rd rfl (.tmp 25) (.tmp 32) 22 rfl (w.heap.size) 9 i0 (.string ⟨#[]⟩) 1 16 Tryz.underlying22 hi0 hz0 hz1 hz2 rfl (by decide) (.slice Ao k co) (k) _ rfl (own_kp0 HOX.out ((Kp.refl [] _).alloc _)) _ _ 1 1 [.string (s.extract al s.size)] rfl rfl (Rd.new w7 #[.string (s.extract al s.size)] 9 (0,0)) (by intro u hu;simp at hu;subst hu;rfl) (by unfold maxLen;omega) (by omega) (by have:=HSX.out;simp;omega) ?_);intro v3 w3 hown3 hgrow3 hat3;obtain ⟨hka3,hga3⟩:=app_facts hgrow3 hat3;obtain ⟨A3',c3',rfl,_⟩:=own_form hown3)
    exact ⟨⟨k+1,c3',A3',rfl,by go_num,by omega,Lib.hid (by rw [piecesL_succ,List.map_append,HPX.out];exact hown3),Lib.hid (HKW.out.trans' hka3 (fun x hx=>.inr (own_ge HOX.out (mem_ownL.1 hx)).1))⟩,by simp [intOf];omega⟩
  ·obtain rfl:k=n:=by omega
   go_wp2_with fail;go_ret;exact ⟨Ao,co,rfl,HO.out,HK.out⟩
theorem rfour_any (n:Nat) (w:World) (hn:n≤2147483647):Calls Tryz.prog 40 #[.int .i64 (n:Int)] w fun e w'=>e=.returned (.slice (some ⟨w.heap.size,0,none⟩) 4 4)∧w'.ownsRow w.heap.size 5 1 (.slice (some ⟨w.heap.size,0,none⟩) 4 4) 4 ((fourI n).map (.int .u8))∧Kp [] w w':=by
 go_enter Tryz.func40,Tryz.ntmps40
 go_wp2_with fail;go_ret;exact ⟨rfl,⟨by simp [fourI],.inr ⟨_,4,#[.int .u8 ((n:Int) / 16777216),.int .u8 ((n:Int) / 65536 % 256),.int .u8 ((n:Int) / 256 % 256),.int .u8 ((n:Int) % 256)],rfl,Nat.le_refl _,Blk.new w 5 [.int .u8 ((n:Int) / 16777216),.int .u8 ((n:Int) / 65536 % 256),.int .u8 ((n:Int) / 256 % 256),.int .u8 ((n:Int) % 256)],Nat.le_refl _,by decide,by simp,by simp [fourI]⟩⟩,(Kp.refl [] w).alloc _⟩
structure RsM (w:World) (lo hi r:Nat) (ts:List ByteArray) (At Ab:Option Addr) (ct cb n m:Nat) (bs:List Int):Prop where
 blk:Blk w r 55 [.slice At n ct,.slice Ab m cb]
 rt:Rd w hi At (ts.map .string)
 rb:Rd w hi Ab (bs.map (.int .u8))
 bf:lo≤r∧r < hi
 bt:∀ ad,At=some ad→lo≤ad.block
 bb:∀ ad,Ab=some ad→lo≤ad.block
 nt:ts.length=n
 nb:bs.length=m
 nc:m≤cb
section
variable {w w':World} {lo hi r ct cb n m:Nat} {ts:List ByteArray} {At Ab:Option Addr} {bs:List Int}
theorem RsM.kp {S:List Nat} (h:RsM w lo hi r ts At Ab ct cb n m bs) (hk:Kp S w w') (hS:∀ g ∈ S,g < lo ∨ hi≤g):RsM w' lo hi r ts At Ab ct cb n m bs:=
 ⟨h.blk.kp hk (fun hm=>by have:=h.bf;rcases hS r hm with h | h <;> omega),h.rt.apart hk h.bt hS,h.rb.apart hk h.bb hS,h.bf,h.bt,h.bb,h.nt,h.nb,h.nc⟩
theorem RsM.kp0 (h:RsM w lo hi r ts At Ab ct cb n m bs) (hk:Kp [] w w'):RsM w' lo hi r ts At Ab ct cb n m bs:=h.kp hk (by simp)
theorem RsM.cells (h:RsM w lo hi r ts At Ab ct cb n m bs):w.cell? ⟨r,0,none⟩=some (.slice At n ct)∧w.cell? ⟨r,1,none⟩=some (.slice Ab m cb):=⟨by rw [h.blk.cell];rfl,by rw [h.blk.cell];rfl⟩
theorem rstext_any (i:Int) (w:World) (h:RsM w lo hi r ts At Ab ct cb n m bs) (hn9:n≤1000000) (hi9:-9223372036854775808≤i) :
  Calls Tryz.prog 51 #[.pointer (some ⟨r,0,none⟩),.int .i64 i] w fun e w'=>e=.returned (textV ts (i - 1))∧w=w':=by
 obtain ⟨hc0,hc1⟩:=h.cells;have HR:=Lib.hid h.rt;have HN:=Lib.hid h.nt;clear h hc1;by_cases h1:i < 1
 ·rw [textV_none (.inl (by omega))];have h1d:decide (i < 1)=true:=by simpa using h1
  go_enter Tryz.func51,Tryz.ntmps51
  go_wp2_with fail;go_ret2;exact ⟨rfl,rfl⟩
 ·obtain ⟨k,rfl⟩:∃ k:Nat,i=(k:Int)+1:=⟨(i - 1).toNat,by omega⟩;have h1d:decide ((k:Int)+1 < 1)=false:=decide_eq_false (by omega);by_cases h2:k < n
  ·obtain ⟨s,ad,hs,rfl,_,hcs⟩:=HR.out.str (k:=k) (by rw [HN.out];exact h2);rw [textV_some (by omega) (show ts[((k:Int)+1 - 1).toNat]? = some s from by rw [show ((k:Int)+1 - 1).toNat=k by omega];exact hs)];have hb0:(0:Int)≤(k:Int):=by omega
   have hb1:(k:Int) < (n:Int):=by omega
   have hb2:decide ((n:Int) < (k:Int)+1)=false:=decide_eq_false (by omega);have hb3:(k:Int)+1≤(n:Int):=by omega
   clear hs
   go_enter Tryz.func51,Tryz.ntmps51
   go_wp2_with fail;go_ret2;exact ⟨rfl,rfl⟩
  ·rw [textV_none (.inr (by rw [HN.out];omega))];have hb2:decide ((n:Int) < (k:Int)+1)=true:=decide_eq_true (by omega);have hb3:(n:Int) < (k:Int)+1:=by omega
   go_enter Tryz.func51,Tryz.ntmps51
   go_wp2_with fail;go_ret2;exact ⟨rfl,rfl⟩
end
end Go.Proofs.YtanacapkfllbnaaGreatDoor
namespace Go.Proofs.YtanacapkfllbnaaGreatDoor
open Go.RowKit

section
variable {w w':World} {lo hi r ct cb n m:Nat} {ts:List ByteArray} {At Ab:Option Addr} {bs:List Int}
theorem rsfind_any (s:ByteArray) (w:World) (h:RsM w lo hi r ts At Ab ct cb n m bs) (hn9:n≤1000000) (hr:riseT ts=true) :
  Calls Tryz.prog 50 #[.pointer (some ⟨r,0,none⟩),.string s] w fun e w'=>e=.returned (.tuple #[.int .i64 (if isF ts s then ((findN ts s:Nat):Int)+1 else 0),.bool (isF ts s)])∧w=w':=by
 obtain ⟨hc0,hc1⟩:=h.cells;have HR:=Lib.hid h.rt;have HN:=Lib.hid h.nt;have HRI:=Lib.hid hr;clear h hc1 hr;obtain ⟨V,hV⟩:∃ V:Value,V=.tuple #[.int .i64 (if isF ts s then ((findN ts s:Nat):Int)+1 else 0),.bool (isF ts s)]:=⟨_,rfl⟩;have HV:=Lib.hid hV;rw [← hV];clear hV
 go_enter Tryz.func50,Tryz.ntmps50
 go_wp2_with fail
 go_loopw [6] (fun x wr=>∃ k:Nat,x=.int .i64 (k:Int)∧k≤n∧Hid (∀ i,i < k→ts[i]? ≠ some s)∧w=wr) (fun x _=>n - (intOf x).toNat)
 case atStart=>exact ⟨0,rfl,by omega,Lib.hid (fun i hi=>by omega),rfl⟩
 case round =>
  obtain ⟨k,rfl,hk,HA,rfl⟩:=hrel;by_cases hlt:k < n
  ·obtain ⟨t,ad,ht,rfl,_,hct⟩:=HR.out.str (k:=k) (by rw [HN.out];exact hlt);have hb0:(0:Int)≤(k:Int):=by omega
   have hb1:(k:Int) < (n:Int):=by omega
   have HTK:=Lib.hid ht;clear ht;by_cases hts:t=s
   ·subst hts;have HF:=Lib.hid (find_in HRI.out HTK.out);go_wp2_with fail;go_ret2;exact ⟨by rw [HV.out,HF.out.1,HF.out.2];rfl,rfl⟩
   ·have hee:=str_eq_false hts
    have HA2:=Lib.hid (show ∀ i,i < k+1→ts[i]? ≠ some s from fun i hi e=>by
     by_cases h:i=k
     ·rw [h,HTK.out] at e;injection e with e
      exact hts e
     ·exact HA.out i (by omega) e)
    go_wp2_with fail;exact ⟨⟨k+1,by go_num,by omega,HA2,trivial⟩,by simp [intOf];omega⟩
  ·obtain rfl:k=n:=by omega
   have HF:=Lib.hid (show isF ts s=false from by
    unfold isF;refine decide_eq_false (fun e=>?_);have h1:=(List.getElem?_eq_some_iff.1 e).1;rw [HN.out] at h1
    exact HA.out _ h1 e)
   go_wp2_with fail;go_ret2;exact ⟨by rw [HV.out,HF.out];rfl,rfl⟩
theorem rsprefix_any (p:ByteArray) (w:World) (h:RsM w lo hi r ts At Ab ct cb n m bs) (hn9:n≤1000000) (hr:riseT ts=true) (hz:∀ t ∈ ts,t.size≤1000000000000) (hp:p.size≤1000000000000) :
  Calls Tryz.prog 52 #[.pointer (some ⟨r,0,none⟩),.string p] w fun e w'=>e=.returned (.tuple #[.int .i64 (((findN ts p+1:Nat)):Int),.int .i64 (((findN ts p+1+preC ts p:Nat)):Int)])∧w=w':=by
 obtain ⟨hc0,hc1⟩:=h.cells;have HR:=Lib.hid h.rt;have HN:=Lib.hid h.nt;have HRI:=Lib.hid hr;have HZ:=Lib.hid hz;clear h hc1 hr hz;have hpl:=preC_le ts p;rw [HN.out] at hpl;obtain ⟨K,hK⟩:∃ K,findN ts p=K:=⟨_,rfl⟩;obtain ⟨C,hC⟩:∃ C,preC ts p=C:=⟨_,rfl⟩;have HKC:=Lib.hid (show findN ts p=K∧preC ts p=C from ⟨hK,hC⟩);rw [hK,hC] at hpl ⊢;clear hK hC
 go_enter Tryz.func52,Tryz.ntmps52
 go_wp2_with fail
 go_loopw [6] (fun x wr=>∃ k:Nat,x=.int .i64 ((k+1:Nat):Int)∧k≤K∧w=wr) (fun x _=>K+2 - (intOf x).toNat)
 case atStart=>exact ⟨0,rfl,by omega,rfl⟩
 case round =>
  obtain ⟨k,rfl,hk,rfl⟩:=hrel;have hkn:k≤n:=by omega
  by_cases hlt:k < n
  ·obtain ⟨t,ad,ht,hA,_,hct⟩:=HR.out.str (k:=k) (by rw [HN.out];exact hlt);subst hA;have hb0:(0:Int)≤(k:Int):=by omega
   have hb1:(k:Int) < (n:Int):=by omega
   have hb2:(k:Int)+1≤(n:Int):=by omega
   have HST:=Lib.hid (findN_step (L:=ts) (s:=p) (j:=k) (by rw [HKC.out.1];exact hk) ht);have HLT:=Lib.hid (less_txt t p);clear ht
   cases hxx:lexN (txt t) (txt p) with
   | true =>
     have hl:Op.bytesLess t.toList p.toList=true:=by rw [HLT.out,hxx]
     have hkK:k+1≤K:=by rw [← HKC.out.1];exact HST.out.1 hxx
     clear hxx;go_wp2_with fail;exact ⟨⟨k+1,by go_num,by omega,trivial⟩,by simp [intOf];omega⟩
   | false =>
     have hl:Op.bytesLess t.toList p.toList=false:=by rw [HLT.out,hxx]
     have hkK:K=k:=by rw [← HKC.out.1];exact HST.out.2 hxx
     clear hxx HST HLT;subst hkK;go_wp2_with fail;clear hl hct hb0 hb1 hb2;clear hk hkn
     go_loopw [7] (fun x wr=>∃ I:Nat,x=.int .i64 ((I:Int)+1)∧K≤I∧I≤K+C∧w=wr) (fun x _=>K+C+2 - (intOf x).toNat)
     case atStart=>exact ⟨K,by go_num,Nat.le_refl _,by omega,rfl⟩
     case round =>
      obtain ⟨I,rfl,hI,hIC,rfl⟩:=hrel;by_cases hlt2:I < n
      ·skip
       obtain ⟨t2,ad2,ht2,hA2,_,hct2⟩:=HR.out.str (k:=I) (by rw [HN.out];exact hlt2)
       first | subst hA2 | (injection hA2 with hA2;subst hA2)
       have hd0:(0:Int)≤(I:Int):=by omega
       have hd1:(I:Int) < (n:Int):=by omega
       have hd2:(I:Int)+1≤(n:Int):=by omega
       have HIN:=Lib.hid (show beginsN (txt t2) (txt p)=decide (K≤I∧I < K+C) from by rw [← HKC.out.1,← HKC.out.2];exact pre_in HRI.out ht2);have htz:=HZ.out t2 (List.mem_of_getElem? ht2);clear ht2;by_cases hle:p.size≤t2.size
       ·have hle2:(p.size:Int)≤(t2.size:Int):=by omega
        have hp0:(0:Int)≤(p.size:Int):=by omega
        have HB:=Lib.hid (show beginsN (txt t2) (txt p)=decide (t2.extract 0 p.size=p) from by
         unfold beginsN;have h1:txt (t2.extract 0 p.size)=(txt t2).take p.size:=by rw [txt_extract,List.drop_zero,Nat.sub_zero]
         rw [txt_len,← h1];by_cases h2:t2.extract 0 p.size=p
         ·rw [h2];simp
         ·rw [decide_eq_false h2,decide_eq_false (fun e=>h2 (txt_inj e))])
        by_cases hq:t2.extract 0 p.size=p
        ·have hIC2:I < K+C:=by
          have h1:=HIN.out;rw [HB.out,decide_eq_true hq] at h1;have:=of_decide_eq_true h1.symm;omega
         have hee:(t2.extract 0 p.size).toList=p.toList:=by rw [hq]
         clear hq;go_wp2_with fail;exact ⟨⟨I+1,by go_num,by omega,by omega,trivial⟩,by simp [intOf];omega⟩
        ·have hIC2:I=K+C:=by
          have h1:=HIN.out;rw [HB.out,decide_eq_false hq] at h1;have:=of_decide_eq_false h1.symm;omega
         have hee:=str_eq_false hq;have HIC:=Lib.hid hIC2;clear hIC2 hq;go_wp2_with fail;go_ret2;exact ⟨by obtain rfl:=HIC.out;go_num,rfl⟩
       ·have hle2:decide (p.size≤t2.size)=false:=by simp;omega
        have hIC2:I=K+C:=by
         have h1:=HIN.out
         rw [show beginsN (txt t2) (txt p)=false from by
          unfold beginsN;refine decide_eq_false (fun e=>?_);have h1:=congrArg List.length e;rw [List.length_take,txt_len,txt_len] at h1
          omega] at h1
         have:=of_decide_eq_false h1.symm;omega
        have HIC:=Lib.hid hIC2;clear hIC2;go_wp2_with fail;go_ret2;exact ⟨by obtain rfl:=HIC.out;go_num,rfl⟩
      ·skip
       have hIC2:I=K+C:=by omega
       have hd2:decide ((I:Int)+1≤(n:Int))=false:=decide_eq_false (by omega);have hd3:¬ ((I:Int)+1≤(n:Int)):=by omega
       have HIC:=Lib.hid hIC2;clear hIC2;go_wp2_with fail;go_ret2;exact ⟨by obtain rfl:=HIC.out;go_num,rfl⟩
  ·have hkK:K=k:=by omega
   have hb2:decide ((k:Int)+1≤(n:Int))=false:=decide_eq_false (by omega);have hb3:¬ ((k:Int)+1≤(n:Int)):=by omega
   subst hkK;go_wp2_with fail;clear hb2 hb3;clear hk hkn
   go_loopw [7] (fun x wr=>∃ I:Nat,x=.int .i64 ((I:Int)+1)∧K≤I∧I≤K+C∧w=wr) (fun x _=>K+C+2 - (intOf x).toNat)
   case atStart=>exact ⟨K,by go_num,Nat.le_refl _,by omega,rfl⟩
   case round =>
    obtain ⟨I,rfl,hI,hIC,rfl⟩:=hrel;have hlt2:¬ I < n:=by omega
    have hIC2:I=K+C:=by omega
    have hd2:decide ((I:Int)+1≤(n:Int))=false:=decide_eq_false (by omega);have hd3:¬ ((I:Int)+1≤(n:Int)):=by omega
    have HIC:=Lib.hid hIC2;clear hIC2;go_wp2_with fail;go_ret2;exact ⟨by obtain rfl:=HIC.out;go_num,rfl⟩
end
end Go.Proofs.YtanacapkfllbnaaGreatDoor
namespace Go.Proofs.YtanacapkfllbnaaGreatDoor
open Go.RowKit PK

noncomputable def secBytes (ts:List ByteArray):List Int:=if ts=[] then fourI 0 else secB (treeC (smO (symL (piecesL ts ts.length))) (lensL (wtO (symL (piecesL ts ts.length))))) (sgK (symL (piecesL ts ts.length)) 257) (lensL (wtO (symL (piecesL ts ts.length)))) ts
theorem secBytes_nil:secBytes []=fourI 0:=by unfold secBytes;rw [if_pos rfl]
def SofP (w:World) (ts:List ByteArray) (e:Ending) (w':World):Prop:=Kp [] w w'∧((riseT ts=false∧e=.returned (.tuple #[.pointer none,.int .i64 12])) ∨
 (riseT ts=true∧∃ (S:List Nat) (sp:Nat) (v:Value) (g m c:Nat),e=.returned (.tuple #[.pointer (some ⟨sp,0,none⟩),.int .i64 0])∧SecM w.heap.size w'.heap.size w' S sp v g m c ts∧(∀ x ∈ S,w.heap.size≤x)∧w.heap.size≤sp∧g ∉ S∧(w.heap.size≤g∧g < w'.heap.size)∧∃ bs:List Int,bs.length=m∧m≤1000000000∧Rd w' w'.heap.size (some ⟨g,0,none⟩) (bs.map (.int .u8))∧bs=secBytes ts))
theorem sof_gen (A:Option Addr) (n c B:Nat) (ts:List ByteArray) (w:World) (hx:Rd w B A (ts.map .string)) (hn:ts.length=n) (hz:∀ s ∈ ts,s.size≤30000) (hb:(symL (piecesL ts n)).length≤29000) (hB:B≤w.heap.size) (ht:Tab64 w) :
  Calls Tryz.prog 11 #[.slice A n c] w (SofP w ts):=by
 have HSZ:=Lib.hid hz
 have hn3:n≤29000:=by
  have h1:=symL_ge (piecesL ts n);rw [piecesL_len] at h1;omega
 have HPS:=Lib.hid hb;have HX:=Lib.hid hx;clear hx;have HN:=Lib.hid hn;clear hn;have HB:=Lib.hid hB;clear hB;have HT:=Lib.hid ht;clear ht;clear hb hz
 go_enter Tryz.func11,Tryz.ntmps11
 go_wp2_with fail;refine (srising_any A n c B ts w HX.out HN.out (by omega)).mono ?_;rintro e w1 ⟨rfl,hd1⟩;have HK:=Lib.hid (hd1.kp []);replace HB:=Lib.hid (Nat.le_trans HB.out (hd1.kp []).size);replace HX:=Lib.hid (HX.out.kp0 (hd1.kp []));replace HT:=Lib.hid (HT.out.kp0 (hd1.kp []));clear hd1
 cases hr:riseT ts with
 | false =>
   have HR:=Lib.hid hr;clear hr;go_wp2_with fail;go_ret2;exact ⟨HK.out,.inl ⟨HR.out,rfl⟩⟩
 | true =>
   have HR:=Lib.hid hr;clear hr;have hnm:decide ((65536:Int) < (n:Int))=false:=by simp;omega
   by_cases hn0:n=0
   ·subst hn0;have HNIL:=Lib.hid (show ts=[] from List.length_eq_zero_iff.1 HN.out);go_wp2_with fail;refine (sfour_any 0 w1 (by omega)).mono ?_;rintro e w2 ⟨rfl,hown2,hk2⟩;obtain ⟨g,hg⟩:∃ g,w1.heap.size=g:=⟨_,rfl⟩;rw [hg];have HGW:=Lib.hid (show g < w2.heap.size from by rw [← hg];exact (own_ge hown2 rfl).2);have HGL:=Lib.hid (show w.heap.size≤g from by rw [← hg];exact HK.out.size);have HK2:=Lib.hid (HK.out.trans hk2);have HRW:=Lib.hid (show Rd w2 w2.heap.size (some ⟨g,0,none⟩) ((fourI 0).map (.int .u8)) from by have h9:=own_rd hown2;rw [hg] at h9;exact h9);clear hown2 hk2 hnm;go_wp2_with fail;obtain ⟨w3,hw3⟩:∃ w3,w3=w2.alloc (.cells #[.pointer none,.slice (some ⟨g,0,none⟩) 4 4] 65):=⟨_,rfl⟩;obtain ⟨sp,hsp⟩:∃ sp,sp=w2.heap.size:=⟨_,rfl⟩;rw [← hw3,← hsp];have HS:=Lib.hid (show SecM w.heap.size w3.heap.size w3 [] sp (.pointer none) g 4 4 ts from ⟨by rw [hw3,hsp];exact Blk.new w2 65 [.pointer none,.slice (some ⟨g,0,none⟩) 4 4],⟨HR.out,by rw [HN.out];omega,.inl ⟨HNIL.out,rfl,rfl⟩⟩,by simp⟩);have HK3:=Lib.hid (show Kp [] w w3 from by rw [hw3];exact HK2.out.alloc _);have HSP:=Lib.hid (show w.heap.size≤sp from by rw [hsp];exact HK2.out.size);have hk3:Kp [] w2 w3:=by rw [hw3];exact (Kp.refl [] w2).alloc _
    have HRW3:=Lib.hid ((HRW.out.kp0 hk3).bound hk3.size);have HGW3:=Lib.hid (Nat.lt_of_lt_of_le HGW.out hk3.size);clear hw3 hsp hk3;go_ret2;exact ⟨HK3.out,.inr ⟨HR.out,[],sp,_,g,4,4,rfl,HS.out,by simp,HSP.out,by simp,⟨HGL.out,HGW3.out⟩,fourI 0,rfl,by omega,HRW3.out,by rw [HNIL.out,secBytes_nil]⟩⟩
   have hn1:1≤n:=by omega
   have hn0':((n:Int) == 0)=false:=by simp;omega
   go_wp2_with fail;refine (spieces_any A n c _ ts w1 HX.out HN.out (by omega) (fun s hs=>by have:=HSZ.out s hs;omega)).mono ?_;rintro e w2 ⟨Ao,co,rfl,hown2,hk2⟩;have HP:=Lib.hid (own_rd hown2);have HPL:=Lib.hid (piecesL_len ts n);replace HK:=Lib.hid (HK.out.trans hk2);replace HB:=Lib.hid (Nat.le_trans HB.out hk2.size);replace HT:=Lib.hid (HT.out.kp0 hk2);replace HX:=Lib.hid (HX.out.kp0 hk2);clear hk2;clear hown2;go_wp2_with fail;refine (aof_any Ao n co _ (piecesL ts n) w2 HP.out HPL.out hn1 (by have:=HPS.out;omega) (Nat.le_refl _)).mono ?_;rintro e w3 ⟨p,rfl,hcode,hk3⟩;obtain ⟨lo,hlo⟩:∃ lo,lo=w2.heap.size:=⟨_,rfl⟩;obtain ⟨hi,hhi⟩:∃ hi,hi=w3.heap.size:=⟨_,rfl⟩;rw [← hlo,← hhi,toNat_smO] at hcode;obtain ⟨L,hL⟩:∃ L,L=lensL (wtO (symL (piecesL ts n))):=⟨_,rfl⟩;obtain ⟨T,hT⟩:∃ T,T=treeC (smO (symL (piecesL ts n))) L:=⟨_,rfl⟩;obtain ⟨sg,hsg⟩:∃ sg,sg=sgK (symL (piecesL ts n)) 257:=⟨_,rfl⟩;rw [← hL] at hcode;rw [← hT,← hsg] at hcode
   have HENC:=Lib.hid (show ∀ s ∈ ts,∃ r,encT T s=some r from fun s hs=>enc_all hcode.1 (fun x hx=>by
    have hx2:=pieces_cover ts hs x hx;rw [HN.out] at hx2;rw [hsg]
    exact mem_sgK hx2 (symL_lt _ x hx2)))
   have HC:=Lib.hid hcode;have HHI:=Lib.hid (show hi≤w3.heap.size by omega);replace HB:=Lib.hid (Nat.le_trans HB.out hk3.size);have HTQ:=Lib.hid (show L=lensL (wtO (symL (piecesL ts n)))∧sg=sgK (symL (piecesL ts n)) 257∧T=treeC (smO (symL (piecesL ts n))) (lensL (wtO (symL (piecesL ts n)))) from ⟨hL,hsg,by rw [hT,hL]⟩)
   have HFJ:=Lib.hid (show ∀ j,(frontB T (ts.take j)).length≤9000000 from fun j=>by
    have h1:=frontB_len2 hcode.1 ts (fun s hs=>by have:=HSZ.out s hs;omega) n (by rw [HN.out];exact Nat.le_refl _);have h2:=frontB_mono T ts j;rw [List.take_of_length_le (by rw [HN.out];exact Nat.le_refl _)] at h1;have:=HPS.out
    omega)
   clear hcode hT hsg hL hhi HP HPL HPS;have HLO:=Lib.hid (show w.heap.size≤w3.heap.size∧w.heap.size≤lo from ⟨Nat.le_trans HK.out.size hk3.size,by rw [hlo];exact HK.out.size⟩);replace HK:=Lib.hid (HK.out.trans hk3);replace HT:=Lib.hid (HT.out.kp0 hk3);clear hlo;replace HX:=Lib.hid (HX.out.kp0 hk3);clear hk3;go_wp2_with fail;refine (fof_gen lo hi p n c _ A ts T sg L w3 HC.out HX.out HN.out (by omega) HSZ.out HFJ.out HHI.out HB.out).mono ?_;rintro e w4 ⟨hk4,⟨hr,_⟩ | ⟨_,⟨s,hs,hno⟩,_⟩ | ⟨_,_,S,f,rfl,hfr⟩⟩
   ·rw [HR.out] at hr
    cases hr
   ·obtain ⟨r,hr⟩:=HENC.out s hs;rw [hr] at hno
    cases hno
   have HFO:=Lib.hid (show Fro w4 w3.heap.size w4.heap.size lo hi S f p T sg L ts from
    ⟨hfr,HC.out.kp0 hk4,fun g hg=>.inr (Nat.le_trans HHI.out (hfr.low g hg)),HT.out.kp0 hk4,fun hm=>by have h1:=hfr.low _ hm;have h2:=HT.out.lt;omega,⟨Nat.le_trans HHI.out hk4.size,Nat.le_refl _⟩,fun x hx=>⟨HENC.out x hx,by have:=HSZ.out x hx;omega⟩⟩)
   have HLW:=Lib.hid (show ∀ g ∈ S,w.heap.size≤g from fun g hg=>Nat.le_trans HK.out.size (hfr.low g hg))
   have HBF:=Lib.hid (show (frontB T ts).length≤9000000 from by
    have h1:=HFJ.out n
    rwa [List.take_of_length_le (by rw [HN.out];exact Nat.le_refl _)] at h1)
   replace HK:=Lib.hid (HK.out.trans hk4);clear hfr hk4 HT HX HENC;go_wp2_with fail;refine (swrites_any w3.heap.size w4.heap.size lo hi f p S T sg L ts w4 HFO.out (by rw [HN.out];omega) HBF.out).mono ?_;rintro e w5 ⟨g,m,c5,bs,rfl,hbe,hbs,hmb,hown5,hk5⟩;have HW4:=Lib.hid HK.out.size;have HBE:=Lib.hid hbe;have HMB:=Lib.hid (show m≤1000000000 by omega);have HF5:=Lib.hid (HFO.out.kp0 hk5);have HSL:=Lib.hid (show ∀ x ∈ S,x < w5.heap.size from HF5.out.lt);replace HK:=Lib.hid (HK.out.trans hk5);have HBS:=Lib.hid hbs;have HGS:=Lib.hid (show g ∉ S∧g < w5.heap.size from ⟨fun hm=>by have h1:=HFO.out.lt _ hm;have h2:=(own_ge hown5 (g:=g) rfl).1;omega,(own_ge hown5 (g:=g) rfl).2⟩);have HGL:=Lib.hid (show w.heap.size≤g from Nat.le_trans HW4.out (own_ge hown5 (g:=g) rfl).1);have HRW:=Lib.hid (own_rd hown5);have hm9:m≤1000000000:=HMB.out;clear hbe hbs hown5 hk5 HFO;go_wp2_with fail;obtain ⟨w6,hw6⟩:∃ w6,w6=w5.alloc (.cells #[.pointer (some ⟨f,0,none⟩),.slice (some ⟨g,0,none⟩) m c5] 65):=⟨_,rfl⟩;obtain ⟨sp,hsp⟩:∃ sp,sp=w5.heap.size:=⟨_,rfl⟩;rw [← hw6,← hsp];have hk6:Kp [] w5 w6:=by rw [hw6];exact (Kp.refl [] w5).alloc _
   have HS:=Lib.hid (show SecM w.heap.size w6.heap.size w6 S sp (.pointer (some ⟨f,0,none⟩)) g m c5 ts from ⟨by rw [hw6,hsp];exact Blk.new w5 65 [.pointer (some ⟨f,0,none⟩),.slice (some ⟨g,0,none⟩) m c5],⟨HR.out,by rw [HN.out];omega,.inr ⟨f,_,_,lo,hi,p,T,sg,L,rfl,HF5.out.kp0 hk6,HLO.out.1,Nat.le_trans HF5.out.hw.2 hk6.size,HLO.out.2,Nat.le_trans HF5.out.hw.1 hk6.size⟩⟩,fun hm=>by have:=HSL.out _ hm;omega⟩);have HK6:=Lib.hid (HK.out.trans hk6);have HSP:=Lib.hid (show w.heap.size≤sp from by rw [hsp];exact HK.out.size);have HRW6:=Lib.hid ((HRW.out.kp0 hk6).bound hk6.size);have HGS6:=Lib.hid (Nat.lt_of_lt_of_le HGS.out.2 hk6.size);have HNE:=Lib.hid (show ts ≠ [] from fun e=>by have h9:=HN.out;rw [e] at h9;simp at h9;omega);clear hw6 hsp hk6;go_ret2;exact ⟨HK6.out,.inr ⟨HR.out,S,sp,_,g,m,c5,rfl,HS.out,HLW.out,HSP.out,HGS.out.1,⟨HGL.out,HGS6.out⟩,bs,HBS.out,hm9,HRW6.out,by unfold secBytes;rw [if_neg HNE.out,HN.out,HBE.out,HTQ.out.2.2,HTQ.out.2.1,HTQ.out.1]⟩⟩
theorem sym_size {ts:List ByteArray} {Z:Nat} (hb:(symL ts).length≤Z):∀ s ∈ ts,s.size≤Z:=fun s hs=>by
 have h1:(symT s).length≤(symL ts).length:=by
  obtain ⟨l1,l2,e⟩:=List.append_of_mem hs;rw [e];unfold symL;rw [List.flatMap_append,List.flatMap_cons,List.length_append,List.length_append];omega
 rw [symT_len] at h1;omega
theorem sym_pieces {ts:List ByteArray} {Z:Nat} (hb:(symL ts).length≤Z):(symL (piecesL ts ts.length)).length≤Z:=by
 have h1:=pieces_sym ts ts.length (Nat.le_refl _);rw [List.take_length] at h1;omega
theorem sof_any (A:Option Addr) (n c B:Nat) (ts:List ByteArray) (w:World) (hx:Rd w B A (ts.map .string)) (hn:ts.length=n) (hb:(symL ts).length≤29000) (hB:B≤w.heap.size) (ht:Tab64 w) :
  Calls Tryz.prog 11 #[.slice A n c] w (SofP w ts):=
 sof_gen A n c B ts w hx hn (fun s hs=>by have:=sym_size hb s hs;omega) (by rw [← hn];exact sym_pieces hb) hB ht
end Go.Proofs.YtanacapkfllbnaaGreatDoor
namespace Go.Proofs.YtanacapkfllbnaaGreatDoor
open Go.RowKit

def lenN (c:Int):Int:=if c=0 then 256 else c
def natsB (b:List Int) (a m:Nat):List Nat:=((b.drop a).take m).map Int.toNat
def lensB (b:List Int) (k:Nat):List Int:=((b.drop 37).take k).map lenN
def sgB (b:List Int):List Nat:=onesL (bitsOf 257 (packN 8 (natsB b 4 33)))
def atB (b:List Int):Nat:=37+(sgB b).length
def smB (b:List Int):List Int:=(sgB b).map fun (x:Nat)=>(x:Int)
def lsB (b:List Int):List Int:=lensB b (sgB b).length
noncomputable def TB (b:List Int):CT:=treeC (smB b) (lsB b)
def manyN (b:List Int):Nat:=(numA b (atB b)).toNat
def vbB (b:List Int):List Nat:=natsB b (atB b+4) ((manyN b+7) / 8)
def LB (b:List Int):List Bool:=bitsOf (manyN b) (packN 8 (vbB b))
def BadB (b:List Int):Prop:=numA b 0 < 0 ∨ 65536 < numA b 0 ∨ b.length < 37 ∨ readE 257 (natsB b 4 33) ≠ 0 ∨ b.length < atB b ∨ ¬ okMake (smB b) (lsB b) ∨ numA b (atB b) < 0 ∨ b.length < atB b+4+(manyN b+7) / 8 ∨ readE (manyN b:Int) (vbB b) ≠ 0
open Classical in
noncomputable def readTx (b:List Int):Option (List ByteArray):=if numA b 0=0 then some [] else if BadB b then none else readT (TB b) (LB b) (numA b 0).toNat
theorem readTx_nil {b:List Int} (h:numA b 0=0):readTx b=some []:=by unfold readTx;rw [if_pos h]
theorem readTx_bad {b:List Int} (h:numA b 0 ≠ 0) (h1:BadB b):readTx b=none:=by unfold readTx;rw [if_neg h,if_pos h1]
theorem readTx_go {b:List Int} (h:numA b 0 ≠ 0) (h1:¬ BadB b):readTx b=readT (TB b) (LB b) (numA b 0).toNat:=by unfold readTx;rw [if_neg h,if_neg h1]
theorem natN_sg (sg:List Nat):(sg.map fun (x:Nat)=>(x:Int)).map Int.toNat=sg:=by
 rw [List.map_map]
 conv=>rhs;rw [← List.map_id sg]
 apply List.map_congr_left
 intro x _;rfl
structure FitB (b:List Int):Prop where
 all:numA b 0 ≠ 0→¬ BadB b→∀ k ts a,k≤(numA b 0).toNat→readK (TB b) (LB b) k=some (ts,a)→ReadB (TB b) (LB b) k ts a
 res:∀ ts,readTx b=some ts→riseT ts=true∧ts.length≤29000∧(∀ s ∈ ts,s.size≤30000)∧(symL (piecesL ts ts.length)).length≤29000
theorem fitB_small {b:List Int} (hb:b.length≤3000):FitB b:=by
 have hL:¬ BadB b→(LB b).length≤24000:=fun h=>by
  have h1:¬ b.length < atB b+4+(manyN b+7) / 8:=fun h9=>h (.inr (.inr (.inr (.inr (.inr (.inr (.inr (.inl h9))))))))
  unfold LB;rw [bitsOf_len];unfold atB at h1;omega
 have hC:¬ BadB b→CodeT (TB b) (sgB b) (lsB b):=fun h=>by
  have hok:okMake (smB b) (lsB b):=Classical.byContradiction fun h9=>h (.inr (.inr (.inr (.inr (.inr (.inl h9))))))
  have hc:=treeC_code hok;have e:(smB b).map Int.toNat=sgB b:=natN_sg (sgB b);rw [e] at hc;exact hc
 refine ⟨fun _ hnb k ts a hk hrk=>readB_small (hC hnb) (by have:=hL hnb;omega) _ k ts a hk hrk,fun ts h=>?_⟩;by_cases h0:numA b 0=0
 ·rw [readTx_nil h0] at h;injection h with h
  subst h;exact ⟨rfl,by simp,by simp,by simp [piecesL,symL]⟩
 by_cases hnb:BadB b
 ·rw [readTx_bad h0 hnb] at h
  cases h
 rw [readTx_go h0 hnb] at h;unfold readT at h
 cases hk:readK (TB b) (LB b) (numA b 0).toNat with
 | none=>rw [hk] at h;cases h
 | some x =>
   obtain ⟨us,a⟩:=x;rw [hk] at h;simp only [Option.bind_some] at h
   split at h
   ·rename_i hc
    injection h with h
    subst h;have h1:=readK_ok (hC hnb) (by have:=hL hnb;omega) hk;have h2:=pieces_front (hC hnb) us h1.en us.length (Nat.le_refl _);have h3:=hL hnb;rw [List.take_length,hc.2] at h2;have h4:=h1.le;have h5:=h1.ka;have h6:=h1.len;exact ⟨hc.1,by omega,fun s hs=>by have:=h1.sz s hs;omega,by omega⟩
   ·cases h
theorem sof_long (A:Option Addr) (n c B:Nat) (ts:List ByteArray) (w:World) (hx:Rd w B A (ts.map .string)) (hn:ts.length=n) (hb:n≤1000000) (hl:65536 < n) (hr:riseT ts=true) :
  Calls Tryz.prog 11 #[.slice A n c] w fun e w'=>e=.returned (.tuple #[.pointer none,.int .i64 3])∧Kp [] w w':=by
 have HX:=Lib.hid hx;clear hx;have HN:=Lib.hid hn;clear hn;have HR:=Lib.hid hr;clear hr;have hd:decide ((65536:Int) < (n:Int))=true:=decide_eq_true (by omega);have hd2:decide (65536 < n)=true:=decide_eq_true hl
 go_enter Tryz.func11,Tryz.ntmps11
 go_wp2_with fail;refine (srising_any A n c B ts w HX.out HN.out (by omega)).mono ?_;rw [HR.out];rintro e w1 ⟨rfl,hd1⟩;have HK:=Lib.hid (hd1.kp []);clear hd1;go_wp2_with fail;go_ret2;exact ⟨rfl,HK.out⟩
theorem RdrM.kp0 {w w':World} {B rp:Nat} {rest:List Int} {bad:Bool} (h:RdrM w B rp rest bad) (hk:Kp [] w w'):RdrM w' B rp rest bad:=by
 obtain ⟨A,n,c,h1,h2,h3⟩:=h;exact ⟨A,n,c,h1.kp0 hk,h2.kp0 hk,h3⟩
def sgC (rest:List Int):List Nat:=onesL (bitsOf 257 (packN 8 ((rest.take 33).map Int.toNat)))
def smC (rest:List Int):List Int:=(sgC rest).map fun (x:Nat)=>(x:Int)
def lsC (rest:List Int):List Int:=((rest.drop 33).take (sgC rest).length).map lenN
def GoodC (rest:List Int):Prop:=33≤rest.length∧readE 257 ((rest.take 33).map Int.toNat)=0∧33+(sgC rest).length≤rest.length∧okMake (smC rest) (lsC rest)
def CodeP (B rp:Nat) (rest:List Int) (bad:Bool) (w:World) (e:Ending) (w':World):Prop:=
 ∃ (k:Nat) (bad':Bool),RdrM w' B rp (rest.drop k) bad'∧Kp [rp] w w' ∧
  ((GoodC rest∧k=33+(sgC rest).length∧bad'=bad∧∃ p lo hi,e=.returned (.tuple #[.pointer (some ⟨p,0,none⟩),.int .i64 0])∧CodeM w' lo hi p (treeC (smC rest) (lsC rest)) (sgC rest) (lsC rest)∧w.heap.size≤lo∧hi≤w'.heap.size) ∨
   (¬ GoodC rest∧∃ v x,x ≠ 0∧e=.returned (.tuple #[v,.int .i64 x])))
theorem sgC_len (rest:List Int):(sgC rest).length≤257:=by
 have h:=onesL_le (bitsOf 257 (packN 8 ((rest.take 33).map Int.toNat)));rw [bitsOf_len] at h;exact h
theorem takeN_yes {N k:Nat} (h:k≤N):takeN N (k:Int)=k∧takeF N (k:Int)=false:=by
 have h1:takeF N (k:Int)=false:=decide_eq_false (by omega);exact ⟨by unfold takeN;rw [h1];simp,h1⟩
theorem takeN_no {N k:Nat} (h:N < k):takeN N (k:Int)=0∧takeF N (k:Int)=true:=by
 have h1:takeF N (k:Int)=true:=decide_eq_true (by omega);exact ⟨by unfold takeN;rw [h1];simp,h1⟩
theorem toNat_lt8 {l:List Int} (hv:∀ x ∈ l,0≤x∧x≤255):∀ y ∈ l.map Int.toNat,y < 2 ^ 8:=fun y hy=>by
 obtain ⟨x,hx,rfl⟩:=List.mem_map.1 hy;have:=hv x hx
 show x.toNat < 256
 omega
theorem scode_any (B rp N:Nat) (rest:List Int) (bad:Bool) (w:World) (h:RdrM w B rp rest bad) (hN:rest.length=N) (hv:∀ x ∈ rest,0≤x∧x≤255) (ht:Tab64 w) (hrt:rp ≠ 0) :
  Calls Tryz.prog 99 #[.pointer (some ⟨rp,0,none⟩)] w (CodeP B rp rest bad w):=by
 obtain ⟨i0,hi0,hz0,hz1,hz2⟩:=info_parts Tryz.info_aint;have HRP:=Lib.hid (show rp < w.heap.size from by obtain ⟨A,n,c,h1,_⟩:=h;exact h1.lt);have HRTB:=Lib.hid hrt;clear hrt;have H:=Lib.hid h;clear h;have HN:=Lib.hid hN;clear hN;have HV:=Lib.hid hv;clear hv;have HT:=Lib.hid ht;clear ht;obtain ⟨K,hK⟩:∃ K,takeN N 33=K:=⟨_,rfl⟩;obtain ⟨bd,hbd⟩:∃ bd,(bad || takeF N 33)=bd:=⟨_,rfl⟩;have HKK:=Lib.hid hK;have HBD:=Lib.hid hbd;have hK33:K≤33:=by rw [← hK];unfold takeN;split <;> simp
 clear hK hbd
 go_enter Tryz.func99,Tryz.ntmps99
 go_wp2_with fail;refine (stake_any B rp N 33 rest bad w H.out HN.out).mono ?_;rw [HKK.out,HBD.out];rintro e w1 ⟨⟨A1,rfl,hr1⟩,hrd1,hk1⟩;obtain ⟨q1,hq1⟩:∃ q1,rest.take K=q1:=⟨_,rfl⟩;have HQ1:=Lib.hid hq1;rw [hq1] at hr1;have HV1:=Lib.hid (show ∀ x ∈ q1,0≤x∧x≤255 from fun x hx=>HV.out x (List.mem_of_mem_take (by rw [hq1];exact hx)))
 have HK1:=Lib.hid (show q1.length=K from by
  rw [← hq1,List.length_take,HN.out];have h1:=HKK.out;by_cases h2:33≤N
  ·have h3:=(takeN_yes h2).1;rw [show ((33:Nat):Int)=33 from rfl,h1] at h3;omega
  ·have h3:=(takeN_no (show N < 33 by omega)).1;rw [show ((33:Nat):Int)=33 from rfl,h1] at h3;omega)
 have HR1:=Lib.hid hr1;have HRD:=Lib.hid hrd1;have HKP:=Lib.hid hk1;have HT1:=Lib.hid (show Tab64 w1 from HT.out.kp hk1 (fun hm=>by have h1:=List.mem_singleton.1 hm;exact HRTB.out h1.symm));clear hq1 hr1 hrd1 hk1;go_wp2_with fail;refine (vread_any 257 A1 K K B (q1.map Int.toNat) w1 (by rw [intsN_bytes HV1.out];exact HR1.out) (by rw [List.length_map];exact HK1.out) (by omega) (toNat_lt8 HV1.out)).mono ?_;rintro e w2 ⟨hk2,⟨hne,rfl⟩ | ⟨hz,_,hlen,_,S,pv,rfl,hvec,hS⟩⟩
 ·obtain ⟨x,hx⟩:∃ x,readE 257 (q1.map Int.toNat)=x:=⟨_,rfl⟩;rw [hx] at hne ⊢;have HX:=Lib.hid hx;have HNE:=Lib.hid hne;have hxz:(x != 0)=true:=by simpa using hne
  have HEND:=Lib.hid (show RdrM w2 B rp (rest.drop K) bd∧Kp [rp] w w2 from ⟨HRD.out.kp0 hk2,HKP.out.trans hk2.nil⟩);clear hx hne hk2;go_wp2_with fail;go_ret2;refine ⟨K,bd,HEND.out.1,HEND.out.2,.inr ⟨fun hg=>?_,_,x,HNE.out,rfl⟩⟩;obtain ⟨g1,g2,_⟩:=hg;have h1:=HKK.out;rw [show (33:Int)=((33:Nat):Int) from rfl,(takeN_yes (by rw [← HN.out];exact g1)).1] at h1;rw [h1,HQ1.out,HX.out] at g2;exact HNE.out g2
 have hK3:K=33:=by rw [List.length_map,HK1.out] at hlen;exact hlen
 subst hK3
 have hN33:33≤N:=by
  by_cases h2:33≤N
  ·exact h2
  ·have h3:=(takeN_no (show N < 33 by omega)).1;rw [show ((33:Nat):Int)=33 from rfl,HKK.out] at h3;omega
 obtain rfl:bd=bad:=by
  have h1:=HBD.out;rw [show (33:Int)=((33:Nat):Int) from rfl,(takeN_yes hN33).2,Bool.or_false] at h1;exact h1.symm
 obtain ⟨bits,hbits⟩:∃ bits,bitsOf (257:Int).toNat (packN 8 (q1.map Int.toNat))=bits:=⟨_,rfl⟩;rw [hbits] at hvec;have HSG:=Lib.hid (show sgC rest=onesL bits from by unfold sgC;rw [HQ1.out,← hbits];rfl);have HZ:=Lib.hid hz;have HV2:=Lib.hid hvec;have HS2:=Lib.hid hS;have HRD2:=Lib.hid (HRD.out.kp0 hk2);have HKP2:=Lib.hid (HKP.out.trans hk2.nil);have HK2:=Lib.hid hk2;have HT2:=Lib.hid (HT1.out.kp0 hk2);have HW2:=Lib.hid (show rp < w1.heap.size∧w.heap.size≤w1.heap.size from ⟨Nat.lt_of_lt_of_le HRP.out HKP.out.size,HKP.out.size⟩);clear hbits hvec hz hS hlen hk2 HRD HKP HR1 HT1;go_wp2_with fail;refine (vones_any S pv bits false w2 HV2.out).mono ?_;rintro e w3 ⟨rfl,hp3⟩;obtain ⟨S3,hv3,hk3,hS3⟩:=first_count HK2.out HS2.out hp3;obtain ⟨m,hm⟩:∃ m,bits.count true=m:=⟨_,rfl⟩;rw [hm];have HM:=Lib.hid (show (onesL bits).length=m from by rw [onesL_len,hm]);have hm257:m≤257:=by rw [← HM.out,← HSG.out];exact sgC_len rest
 have HV3:=Lib.hid hv3
 have HS3:=Lib.hid (show 0 ∉ S3 from fun hm=>by
  have h1:=hS3 _ hm;have h2:=HT.out.lt;have h3:=HW2.out.2
  omega)
 have h23:Kp S w2 w3:=by obtain ⟨_,_,h9,_⟩:=hp3;exact h9
 have HT3:=Lib.hid (HT2.out.kp h23 (fun hm=>by
  have h1:=HS2.out _ hm;have h2:=HT.out.lt;have h3:=HW2.out.2
  omega))
 have HRD3:=Lib.hid (show RdrM w3 B rp (rest.drop 33) bd from by
  obtain ⟨A,n,c,k1,k2,k3,k4,k5⟩:=HRD2.out
  exact ⟨A,n,c,k1.kp h23 (fun hm=>by have h1:=HS2.out _ hm;have h2:=HW2.out.1;omega),k2.kp h23 (fun g hg=>by have h1:=HS2.out g hg;have h2:=HW2.out.1;omega),k3,k4,k5⟩)
 have HKP3:=Lib.hid (show Kp [rp] w w3 from HKP2.out.trans' h23 (fun x hx=>.inr (by have h1:=HS2.out x hx;have h2:=HW2.out.2;omega)));clear hv3 hk3 hS3 hp3 h23 hm HV2 HS2 HRD2 HKP2 HK2 HT2;go_wp2_with fail
 go_loopw [6,24] (fun v x wr=>∃ (k c:Nat) (A:Option Addr),v=.slice A k c∧x=.int .i64 (k:Int)∧k≤m∧Hid (wr.ownsRow w3.heap.size 3 1 (.slice A k c) k (((onesL bits).take k).map fun (x:Nat)=>.int .i64 (x:Int)))∧Hid (Kp [] w3 wr)) (fun _ x _=>m - (intOf x).toNat)
 case atStart=>exact ⟨0,0,none,rfl,rfl,by omega,Lib.hid (World.ownsRow_nil _ _ _ 1),Lib.hid (Kp.refl _ _)⟩
 case round =>
  obtain ⟨k,c,A,rfl,rfl,hk,HO,HKR⟩:=hrel;by_cases hlt:k < m
  ·obtain ⟨y,hy⟩:∃ y,(onesL bits)[k]? = some y:=⟨_,List.getElem?_eq_getElem (by rw [HM.out];exact hlt)⟩;have HYS:=Lib.hid (ones_selI hy);obtain ⟨bb,hbb⟩:∃ bb,selB bits (k:Int)=bb:=⟨_,rfl⟩;have HBB:=Lib.hid hbb;have HY:=Lib.hid hy;clear hy hbb;go_wp2_with fail;refine (qselect (k:Int) (HV3.out.kp0 HKR.out) (HT3.out.kp0 HKR.out) HS3.out HYS.out HBB.out).mono ?_;rintro e w4 ⟨rfl,hk4⟩;have HO4:=Lib.hid (own_kp0 HO.out hk4);have HK4:=Lib.hid (HKR.out.trans hk4);have HSZ:=Lib.hid HK4.out.size;clear hk4 HO HKR
   go_wp2_with (at_builtin;go_loud (refine wpList_append_rd rfl (.tmp 33) (.tmp 35) 81 rfl (w3.heap.size) 3 i0 (.int .i64 0) 1 8 Tryz.underlying81 hi0 hz0 hz1 hz2 rfl (by decide) (.slice A k c) (k) _ rfl (own_kp0 HO4.out ((Kp.refl [] _).alloc _)) _ _ 1 1 [.int .i64 (y:Int)] rfl rfl (Rd.new w4 #[.int .i64 (y:Int)] 3 (0,0)) (by intro u hu;simp at hu;subst hu;rfl) (by unfold maxLen;omega) (by omega) (by have:=HSZ.out;simp;omega) ?_);intro v5 w5 hown5 hgrow5 hat5;obtain ⟨hka5,hga5⟩:=app_facts hgrow5 hat5;obtain ⟨A5',c5',rfl,_⟩:=own_form hown5)
   exact ⟨⟨k+1,c5',A5',rfl,by go_num,by omega,Lib.hid (by rw [List.take_add_one,HY.out,List.map_append];exact hown5),Lib.hid (HK4.out.trans' hka5 (fun x hx=>.inr (own_ge HO4.out (mem_ownL.1 hx)).1))⟩,by simp [intOf];omega⟩
  ·obtain rfl:k=m:=by omega
   obtain ⟨wq,hwq⟩:∃ wq,wq=wr:=⟨_,rfl⟩;rw [← hwq] at HO HKR ⊢;clear hwq
   have HSM:=Lib.hid (show Rd wq wq.heap.size A ((smC rest).map (.int .i64)) from by
    have h1:=own_rd HO.out;rw [List.take_of_length_le (by rw [HM.out];exact Nat.le_refl _)] at h1;unfold smC;rw [HSG.out,List.map_map]
    exact h1)
   have HSL:=Lib.hid (show (smC rest).length=k from by unfold smC;rw [List.length_map,HSG.out,HM.out]);have HRD4:=Lib.hid (HRD3.out.kp0 HKR.out);have HKP4:=Lib.hid (HKP3.out.trans HKR.out.nil);obtain ⟨N2,hN2⟩:∃ N2,(rest.drop 33).length=N2:=⟨_,rfl⟩;have HN2:=Lib.hid hN2;obtain ⟨K2,hK2⟩:∃ K2,takeN N2 (k:Int)=K2:=⟨_,rfl⟩;obtain ⟨bd2,hbd2⟩:∃ bd2,(bd || takeF N2 (k:Int))=bd2:=⟨_,rfl⟩;have HKK2:=Lib.hid hK2;have HBD2:=Lib.hid hbd2;have hK2k:K2≤k:=by rw [← hK2];unfold takeN;split <;> simp
   have HAB:=Lib.hid (show ∀ ad,A=some ad→w3.heap.size≤ad.block from fun ad e=>by
    obtain ⟨_,_,he,_,_,_,hA⟩:=own_form HO.out;injection he with e1 e2 e3
    subst e1
    exact (hA ad e).2.2.1)
   have HRW:=Lib.hid (show rp < w3.heap.size from Nat.lt_of_lt_of_le HRP.out HKP3.out.size);clear HO HKR HRD3 HKP3 HV3 HT3 hN2 hK2 hbd2;go_wp2_with fail;refine (stake_any B rp N2 (k:Int) (rest.drop 33) bd wq HRD4.out HN2.out).mono ?_;rw [HKK2.out,HBD2.out];rintro e w5 ⟨⟨A5,rfl,hr5⟩,hrd5,hk5⟩;obtain ⟨q2,hq2⟩:∃ q2,(rest.drop 33).take K2=q2:=⟨_,rfl⟩;rw [hq2] at hr5;have HQ2:=Lib.hid hq2
   have HQL:=Lib.hid (show q2.length=K2 from by
    rw [← hq2,List.length_take,HN2.out];have h1:=HKK2.out;by_cases h2:k≤N2
    ·have h3:=(takeN_yes h2).1;omega
    ·have h3:=(takeN_no (show N2 < k by omega)).1;omega)
   have HQV:=Lib.hid (show ∀ x ∈ q2,0≤x∧x≤255 from fun x hx=>HV.out x (List.mem_of_mem_drop (List.mem_of_mem_take (by rw [hq2];exact hx))));have HR5:=Lib.hid hr5;have HRD5:=Lib.hid hrd5;have HKP5:=Lib.hid (HKP4.out.trans hk5);have HSM5:=Lib.hid (HSM.out.kp_ne hk5 (fun ad e hm=>by have h1:=HAB.out ad e;have h2:=HRW.out;have h3:=List.mem_singleton.1 hm;omega));have HB5:=Lib.hid hk5.size;clear hq2 hr5 hrd5 hk5 HSM HRD4 HKP4;go_wp2_with fail
   go_loopw [7,43] (fun v x wr=>∃ (j c':Nat) (A':Option Addr),v=.slice A' j c'∧x=.int .i64 (j:Int)∧j≤K2∧Hid (wr.ownsRow w5.heap.size 3 1 (.slice A' j c') j (((q2.take j).map lenN).map (.int .i64)))∧Hid (Kp [] w5 wr)) (fun _ x _=>K2 - (intOf x).toNat)
   case atStart=>exact ⟨0,0,none,rfl,rfl,by omega,Lib.hid (World.ownsRow_nil _ _ _ 1),Lib.hid (Kp.refl _ _)⟩
   case round =>
    obtain ⟨j,c',A',rfl,rfl,hj,HO,HKR⟩:=hrel;by_cases hlt2:j < K2
    ·obtain ⟨y,hy⟩:∃ y,q2[j]? = some y:=⟨_,List.getElem?_eq_getElem (by rw [HQL.out];exact hlt2)⟩;obtain ⟨ad,rfl,_,hcy⟩:=(HR5.out.kp0 HKR.out).at_ (i:=j) (u:=.int .u8 y) (by rw [List.getElem?_map,hy];rfl);have hyv:=HQV.out y (List.mem_of_getElem? hy);have hb0:(0:Int)≤(j:Int):=by omega
     have hb1:(j:Int) < (K2:Int):=by omega
     have HSZ:=Lib.hid HKR.out.size;have HY:=Lib.hid hy;clear hy;by_cases hy0:y=0
     ·subst hy0;have HLE:=Lib.hid (show lenN 0=256 from rfl)
      go_wp2_with (at_builtin;go_loud (refine wpList_append_rd rfl (.tmp 47) (.tmp 52) 81 rfl (w5.heap.size) 3 i0 (.int .i64 0) 1 8 Tryz.underlying81 hi0 hz0 hz1 hz2 rfl (by decide) (.slice A' j c') (j) _ rfl (own_kp0 HO.out ((Kp.refl [] _).alloc _)) _ _ 1 1 [.int .i64 (256)] rfl rfl (Rd.new wr #[.int .i64 (256)] 3 (0,0)) (by intro u hu;simp at hu;subst hu;rfl) (by unfold maxLen;omega) (by omega) (by have:=HSZ.out;simp;omega) ?_);intro v6 w6 hown6 hgrow6 hat6;obtain ⟨hka6,hga6⟩:=app_facts hgrow6 hat6;obtain ⟨A6',c6',rfl,_⟩:=own_form hown6)
      exact ⟨⟨j+1,c6',A6',rfl,by go_num,by omega,Lib.hid (by rw [List.take_add_one,HY.out,List.map_append,List.map_append];have h9:=hown6;rw [← HLE.out] at h9;exact h9),Lib.hid (HKR.out.trans' hka6 (fun x hx=>.inr (own_ge HO.out (mem_ownL.1 hx)).1))⟩,by simp [intOf];omega⟩
     ·have hwr:IntKind.wrap .u8 (y - 1)=y - 1:=by
       have h1:IntKind.wrap .u8 (y - 1)=(y - 1) % 256:=by simp [IntKind.wrap,IntKind.signed,IntKind.bits]
       rw [h1];omega
      have hln:lenN y=y:=by unfold lenN;rw [if_neg hy0]
      have hy1:1≤y:=by omega
      have HLE:=Lib.hid hln;clear hln
      go_wp2_with (at_builtin;go_loud (refine wpList_append_rd rfl (.tmp 47) (.tmp 52) 81 rfl (w5.heap.size) 3 i0 (.int .i64 0) 1 8 Tryz.underlying81 hi0 hz0 hz1 hz2 rfl (by decide) (.slice A' j c') (j) _ rfl (own_kp0 HO.out ((Kp.refl [] _).alloc _)) _ _ 1 1 [.int .i64 (y)] rfl rfl (Rd.new wr #[.int .i64 (y)] 3 (0,0)) (by intro u hu;simp at hu;subst hu;rfl) (by unfold maxLen;omega) (by omega) (by have:=HSZ.out;simp;omega) ?_);intro v6 w6 hown6 hgrow6 hat6;obtain ⟨hka6,hga6⟩:=app_facts hgrow6 hat6;obtain ⟨A6',c6',rfl,_⟩:=own_form hown6)
      exact ⟨⟨j+1,c6',A6',rfl,by go_num,by omega,Lib.hid (by rw [List.take_add_one,HY.out,List.map_append,List.map_append];have h9:=hown6;rw [← HLE.out] at h9;exact h9),Lib.hid (HKR.out.trans' hka6 (fun x hx=>.inr (own_ge HO.out (mem_ownL.1 hx)).1))⟩,by simp [intOf];omega⟩
    ·obtain rfl:j=K2:=by omega
     have HLN:=Lib.hid (show Rd wr wr.heap.size A' ((q2.map lenN).map (.int .i64)) from by
      have h1:=own_rd HO.out
      rwa [List.take_of_length_le (by rw [HQL.out];exact Nat.le_refl _)] at h1)
     have HSM6:=Lib.hid ((HSM5.out.kp0 HKR.out).bound (Nat.le_trans HB5.out HKR.out.size));have HRD6:=Lib.hid (HRD5.out.kp0 HKR.out);have HKP6:=Lib.hid (HKP5.out.trans HKR.out.nil);clear HO HKR HSM5 HRD5 HKP5 HR5;go_wp2_with fail;refine (amake_any A A' k j c c' _ _ (smC rest) (q2.map lenN) wr HSM6.out HLN.out HSL.out (by rw [List.length_map];exact HQL.out) (by omega) (by omega) (Nat.le_refl _) (Nat.le_refl _)).mono ?_;rintro e w7 ⟨hyes,hno,hk7⟩;have HRD7:=Lib.hid (HRD6.out.kp0 hk7);have HKP7:=Lib.hid (HKP6.out.trans hk7.nil);by_cases hok:okMake (smC rest) (q2.map lenN)
     ·obtain ⟨p,rfl,hcode⟩:=hyes hok
      have hjk:j=k:=by
       have h1:=hok.1;rw [HSL.out,List.length_map,HQL.out] at h1;exact h1.symm
      subst hjk
      have hjN:j≤N2:=by
       rw [← HQL.out,← HQ2.out,List.length_take,HN2.out];exact Nat.min_le_right _ _
      have hls:lsC rest=q2.map lenN:=by unfold lsC;rw [HSG.out,HM.out,HQ2.out]
      have hg:GoodC rest:=⟨by rw [HN.out];exact hN33,by have h1:=HQ1.out;rw [h1];exact HZ.out,by rw [HSG.out,HM.out];have h1:=HN2.out;rw [List.length_drop] at h1;rw [HN.out] at h1 ⊢;omega,by rw [hls];exact hok⟩;have hbb:bd2=bd:=by rw [← HBD2.out,(takeN_yes hjN).2,Bool.or_false]
      have hsn:(smC rest).map Int.toNat=sgC rest:=natN_sg _;rw [hsn,← hls] at hcode;have HC:=Lib.hid hcode;have HG:=Lib.hid hg;have HBB2:=Lib.hid hbb;have HSW:=Lib.hid (show w.heap.size≤wr.heap.size from HKP6.out.size);clear hyes hno hk7 hok hcode hls hg hbb hsn;go_wp2_with fail;go_ret2;exact ⟨33+j,bd2,by rw [← List.drop_drop];exact HRD7.out,HKP7.out,.inl ⟨HG.out,by rw [HSG.out,HM.out],HBB2.out,p,_,_,rfl,HC.out,HSW.out,Nat.le_refl _⟩⟩
     ·obtain rfl:=hno hok
      have HNO:=Lib.hid (show ¬ GoodC rest from fun hg=>hok (by
       obtain ⟨_,_,g3,g4⟩:=hg;rw [HSG.out,HM.out] at g3;have hkN:k≤N2:=by have h1:=HN2.out;rw [List.length_drop] at h1;omega
       have hjk:j=k:=by rw [← HKK2.out];exact (takeN_yes hkN).1
       unfold lsC at g4;rw [HSG.out,HM.out,← hjk,HQ2.out] at g4
       exact g4))
      clear hyes hno hk7 hok;go_wp2_with fail;go_ret2;exact ⟨33+j,bd2,by rw [← List.drop_drop];exact HRD7.out,HKP7.out,.inr ⟨HNO.out,_,2,by decide,rfl⟩⟩
theorem numB_range:∀ (l:List Int),(∀ x ∈ l,0≤x∧x≤255)→l.length≤4→0≤numB l∧numB l≤4294967295
 | [],_,_=>by decide
 | [a],h,_=>by have h1:=h a (by simp);show 0≤0 * 256+a∧0 * 256+a≤_;omega
 | [a,b],h,_=>by have h1:=h a (by simp);have h2:=h b (by simp);show 0≤(0 * 256+a) * 256+b∧(0 * 256+a) * 256+b≤_;omega
 | [a,b,c],h,_=>by
   have h1:=h a (by simp);have h2:=h b (by simp);have h3:=h c (by simp)
   show 0≤((0 * 256+a) * 256+b) * 256+c∧((0 * 256+a) * 256+b) * 256+c≤_
   omega
 | [a,b,c,d],h,_=>by
   have h1:=h a (by simp);have h2:=h b (by simp);have h3:=h c (by simp);have h4:=h d (by simp)
   show 0≤(((0 * 256+a) * 256+b) * 256+c) * 256+d∧(((0 * 256+a) * 256+b) * 256+c) * 256+d≤_
   omega
 | _ :: _ :: _ :: _ :: _ :: _,_,h=>by simp at h
theorem take4 {rest:List Int} {N:Nat} (hN:rest.length=N):(rest.take (takeN N 4)).length≤4:=by
 rw [List.length_take];unfold takeN
 split <;> simp
 omega
theorem numA_read {b:List Int} {a N:Nat} (hN:(b.drop a).length=N) (h4:4≤N):numB ((b.drop a).take (takeN N 4))=numA b a∧takeF N 4=false∧takeN N 4=4:=by
 have h1:=takeN_yes (N:=N) (k:=4) h4;have e:((4:Nat):Int)=4:=rfl;rw [e] at h1;refine ⟨?_,h1.2,h1.1⟩;rw [h1.1];unfold numA;rw [if_neg (by rw [List.length_drop] at hN;omega)]
theorem numA_short {b:List Int} {a N:Nat} (hN:(b.drop a).length=N) (h4:N < 4):numB ((b.drop a).take (takeN N 4))=0∧takeF N 4=true∧takeN N 4=0∧numA b a=-1:=by
 have h1:=takeN_no (N:=N) (k:=4) h4;have e:((4:Nat):Int)=4:=rfl;rw [e] at h1;refine ⟨by rw [h1.1];rfl,h1.2,h1.1,?_⟩;unfold numA;rw [if_pos (by rw [List.length_drop] at hN;omega)]
theorem sgC_B (b:List Int):sgC (b.drop 4)=sgB b:=rfl
theorem smC_B (b:List Int):smC (b.drop 4)=smB b:=rfl
theorem lsC_B (b:List Int):lsC (b.drop 4)=lsB b:=by
 unfold lsC lsB lensB;rw [List.drop_drop,sgC_B]
theorem bad_code {b:List Int} (h:¬ GoodC (b.drop 4)):BadB b:=by
 apply Classical.byContradiction
 intro hn
 apply h
 have h1:¬ b.length < 37:=fun h9=>hn (.inr (.inr (.inl h9)))
 have h2:readE 257 (natsB b 4 33)=0:=Classical.byContradiction fun h9=>hn (.inr (.inr (.inr (.inl h9))))
 have h3:¬ b.length < atB b:=fun h9=>hn (.inr (.inr (.inr (.inr (.inl h9)))))
 have h4:okMake (smB b) (lsB b):=Classical.byContradiction fun h9=>hn (.inr (.inr (.inr (.inr (.inr (.inl h9))))))
 refine ⟨by rw [List.length_drop];omega,h2,?_,by rw [smC_B,lsC_B];exact h4⟩;rw [sgC_B,List.length_drop];unfold atB at h3;omega
theorem tail_ok {b:List Int} (h7:¬ numA b (atB b) < 0) (h8:¬ b.length < atB b+4+(manyN b+7) / 8) {N2 M N3:Nat} (hN2:(b.drop (atB b)).length=N2) (hM:numB ((b.drop (atB b)).take (takeN N2 4))=(M:Int)) (hN3:((b.drop (atB b)).drop (takeN N2 4)).length=N3) :
  M=manyN b∧takeF N2 4=false∧takeF N3 (((M+7) / 8:Nat):Int)=false∧(((b.drop (atB b)).drop (takeN N2 4)).take (takeN N3 (((M+7) / 8:Nat):Int))).map Int.toNat=vbB b:=by
 have h4:4≤N2:=by
  apply Classical.byContradiction
  intro h;have:=(numA_short hN2 (by omega)).2.2.2;omega
 obtain ⟨e1,e2,e3⟩:=numA_read hN2 h4;rw [e1] at hM;have hm:M=manyN b:=by unfold manyN;rw [hM];rfl
 rw [e3] at hN3
 have hq:(M+7) / 8≤N3:=by
  rw [List.length_drop,List.length_drop] at hN3;rw [hm];omega
 have e4:=takeN_yes hq;refine ⟨hm,e2,e4.2,?_⟩;rw [e3,e4.1,List.drop_drop,hm];rfl
theorem tail_back {b:List Int} {N2 M N3:Nat} (hN2:(b.drop (atB b)).length=N2) (hM:numB ((b.drop (atB b)).take (takeN N2 4))=(M:Int)) (hN3:((b.drop (atB b)).drop (takeN N2 4)).length=N3) (h2:takeF N2 4=false) (h3:takeF N3 (((M+7) / 8:Nat):Int)=false) :
  ¬ numA b (atB b) < 0∧¬ b.length < atB b+4+(manyN b+7) / 8:=by
 have h4:4≤N2:=by
  apply Classical.byContradiction
  intro h;have:=(numA_short hN2 (by omega)).2.1;rw [h2] at this
  cases this
 obtain ⟨e1,e2,e3⟩:=numA_read hN2 h4;rw [e1] at hM;have hm:M=manyN b:=by unfold manyN;rw [hM];rfl
 have hq:(M+7) / 8≤N3:=by
  apply Classical.byContradiction
  intro h;have:=(takeN_no (N:=N3) (k:=(M+7) / 8) (by omega)).2;rw [h3] at this
  cases this
 rw [e3,List.length_drop,List.length_drop] at hN3;rw [List.length_drop] at hN2;rw [hM,← hm];refine ⟨by omega,by omega⟩
def TextsP (rp:Nat) (b:List Int) (w:World) (e:Ending) (w':World):Prop:=
 Kp [rp] w w'∧((readTx b=none∧∃ v,e=.returned (.tuple #[v,.bool false])) ∨
  (∃ (ts:List ByteArray) (A:Option Addr) (n c:Nat),readTx b=some ts∧e=.returned (.tuple #[.slice A n c,.bool true])∧Rd w' w'.heap.size A (ts.map .string)∧ts.length=n))
theorem FrM.low13 {w:World} {lo hi f p:Nat} {S:List Nat} {T:CT} {ss:List ByteArray} (h:FrM w lo hi S f p T ss):∀ g ∈ S,lo≤g:=by
 obtain ⟨_,_,_,_,_,_,_,_,_,_,_,k,_⟩:=h;exact k
theorem stexts_any (B rp N:Nat) (b:List Int) (w:World) (h:RdrM w B rp b false) (hN:b.length=N) (hv:∀ x ∈ b,0≤x∧x≤255) (ht:Tab64 w) (hrt:rp ≠ 0) (hfit:FitB b) :
  Calls Tryz.prog 53 #[.pointer (some ⟨rp,0,none⟩)] w (TextsP rp b w):=by
 obtain ⟨i0,hi0,hz0,hz1,hz2⟩:=info_parts Tryz.info_strS;have HRP:=Lib.hid (show rp < w.heap.size from by obtain ⟨A,n,c,h1,_⟩:=h;exact h1.lt);have HFIT:=Lib.hid hfit;have HRTB:=Lib.hid hrt;clear hrt hfit;have H:=Lib.hid h;clear h;have HN:=Lib.hid hN;clear hN;have HV:=Lib.hid hv;clear hv;have HT:=Lib.hid ht;clear ht
 go_enter Tryz.func53,Tryz.ntmps53
 go_wp2_with fail;refine (snumber_any B rp N b false w H.out HN.out HV.out).mono ?_;rw [Bool.false_or];rintro e w1 ⟨rfl,hrd,hk1⟩;have hN0:(b.drop 0).length=N:=by rw [List.drop_zero];exact HN.out
 by_cases h4:4≤N
 case neg =>
  obtain ⟨e1,e2,e3,e4⟩:=numA_short hN0 (by omega);rw [List.drop_zero] at e1;rw [e1];rw [e2,e3,List.drop_zero] at hrd;have HNO:=Lib.hid (show readTx b=none from readTx_bad (by rw [e4];decide) (.inl (by rw [e4];decide)));obtain ⟨_,_,_,hblk,_⟩:=hrd;have hc1:w1.cell? ⟨rp,1,none⟩=some (.bool true):=by rw [hblk.cell];rfl
  have HK1:=Lib.hid hk1;clear hblk hk1 e1 e2 e3 e4 hN0;go_wp2_with fail
  go_quiet (fail)
  go_wp2_with fail;go_ret2;exact ⟨HK1.out.drewN _,.inl ⟨HNO.out,_,rfl⟩⟩
 obtain ⟨e1,e2,e3⟩:=numA_read hN0 h4;have hrg:=numB_range (b.take (takeN N 4)) (fun x hx=>HV.out x (List.mem_of_mem_take hx)) (take4 HN.out);rw [List.drop_zero] at e1;rw [e1] at hrg ⊢;rw [e2,e3] at hrd;obtain ⟨V,hV⟩:∃ V:Nat,numA b 0=(V:Int):=⟨(numA b 0).toNat,by omega⟩;rw [hV] at hrg ⊢;have HVA:=Lib.hid hV;have HRD:=Lib.hid hrd;have HK1:=Lib.hid hk1;clear e1 e2 e3 hN0 hrd hk1 hV;by_cases hV0:V=0
 ·subst hV0;obtain ⟨_,_,_,hblk,_⟩:=HRD.out;have hc1:w1.cell? ⟨rp,1,none⟩=some (.bool false):=by rw [hblk.cell];rfl
  have HYES:=Lib.hid (show readTx b=some [] from readTx_nil HVA.out);clear hblk hrg;go_wp2_with fail
  go_quiet (fail)
  go_wp2_with fail;go_ret2;exact ⟨HK1.out.drewN _,.inr ⟨[],none,0,0,HYES.out,rfl,Rd.nil _ _ _,rfl⟩⟩
 have hv0:((V:Int) == 0)=false:=by simp;omega
 by_cases hV6:65536 < V
 ·have hvd:decide ((65536:Int) < (V:Int))=true:=by simp;omega
  have HNO:=Lib.hid (show readTx b=none from readTx_bad (by rw [HVA.out];omega) (.inr (.inl (by rw [HVA.out];omega))));clear hrg;go_wp2_with fail
  try go_quiet (fail)
  try go_wp2_with fail
  go_ret2;exact ⟨by first | exact HK1.out.drewN _ | exact HK1.out,.inl ⟨HNO.out,_,rfl⟩⟩
 have hvd:decide ((65536:Int) < (V:Int))=false:=by simp;omega
 obtain ⟨N1,hN1⟩:∃ N1,(b.drop 4).length=N1:=⟨_,rfl⟩;have HN1:=Lib.hid hN1;have HV1:=Lib.hid (show ∀ x ∈ b.drop 4,0≤x∧x≤255 from fun x hx=>HV.out x (List.mem_of_mem_drop hx));have HT1:=Lib.hid (show Tab64 w1 from HT.out.kp HK1.out (fun hm=>HRTB.out (List.mem_singleton.1 hm).symm));have HSZ1:=Lib.hid (show w.heap.size≤w1.heap.size∧rp < w1.heap.size from ⟨HK1.out.size,Nat.lt_of_lt_of_le HRP.out HK1.out.size⟩);clear hN1 hrg;go_wp2_with fail;refine (scode_any B rp N1 (b.drop 4) false w1 HRD.out HN1.out HV1.out HT1.out HRTB.out).mono ?_;rintro e w2 ⟨k,bd,hrd2,hk2,hcase⟩
 obtain ⟨v,x,rfl,hcase2⟩:∃ (v:Value) (x:Int),e=.returned (.tuple #[v,.int .i64 x])∧((x=0∧GoodC (b.drop 4)∧k=33+(sgB b).length∧bd=false∧∃ p lo hi,v=.pointer (some ⟨p,0,none⟩)∧CodeM w2 lo hi p (TB b) (sgB b) (lsB b)∧w1.heap.size≤lo∧hi≤w2.heap.size) ∨ (x ≠ 0∧¬ GoodC (b.drop 4))):=by
  rcases hcase with ⟨hg,h1,h2,p,lo,hi,h3,h4,h5,h6⟩ | ⟨hg,v,x,hx,h3⟩
  ·rw [smC_B,lsC_B,sgC_B] at h4;exact ⟨_,0,h3,.inl ⟨rfl,hg,by rw [← sgC_B];exact h1,h2,p,lo,hi,rfl,h4,h5,h6⟩⟩
  ·exact ⟨v,x,h3,.inr ⟨hx,hg⟩⟩
 obtain ⟨N2,hN2⟩:∃ N2,((b.drop 4).drop k).length=N2:=⟨_,rfl⟩;have HCASE:=Lib.hid hcase2;have HN2:=Lib.hid hN2;have HRD2:=Lib.hid hrd2;have HK2:=Lib.hid (HK1.out.trans hk2);have HT2:=Lib.hid (show Tab64 w2 from HT1.out.kp hk2 (fun hm=>HRTB.out (List.mem_singleton.1 hm).symm));have HSZ2:=Lib.hid (show rp < w2.heap.size∧w1.heap.size≤w2.heap.size from ⟨Nat.lt_of_lt_of_le HSZ1.out.2 hk2.size,hk2.size⟩);clear hcase hcase2 hN2 hrd2 hk2 HRD HT1 HK1;go_wp2_with fail;refine (snumber_any B rp N2 ((b.drop 4).drop k) bd w2 HRD2.out HN2.out (fun x hx=>HV1.out x (List.mem_of_mem_drop hx))).mono ?_;have hrg:=numB_range (((b.drop 4).drop k).take (takeN N2 4)) (fun x hx=>HV1.out x (List.mem_of_mem_drop (List.mem_of_mem_take hx))) (take4 HN2.out);obtain ⟨M,hM⟩:∃ M:Nat,numB (((b.drop 4).drop k).take (takeN N2 4))=(M:Int):=⟨(numB (((b.drop 4).drop k).take (takeN N2 4))).toNat,by omega⟩;rw [hM] at hrg ⊢;obtain ⟨bd3,hbd3⟩:∃ bd3,(bd || takeF N2 4)=bd3:=⟨_,rfl⟩;obtain ⟨q3,hq3⟩:∃ q3,((b.drop 4).drop k).drop (takeN N2 4)=q3:=⟨_,rfl⟩;rw [hbd3,hq3];rintro e w3 ⟨rfl,hrd3,hk3⟩;obtain ⟨N3,hN3⟩:∃ N3,q3.length=N3:=⟨_,rfl⟩;obtain ⟨Q,hQ⟩:∃ Q,(M+7) / 8=Q:=⟨_,rfl⟩;have hdiv:Int.tdiv ((M:Int)+7) 8=(Q:Int):=by rw [Int.tdiv_eq_ediv_of_nonneg (by omega)];omega
 have hM4:M≤4294967295:=by omega
 have hQ4:Q≤536870912:=by omega
 have HMV:=Lib.hid hM;have HBD3:=Lib.hid hbd3;have HQ3:=Lib.hid hq3;have HN3:=Lib.hid hN3;have HQQ:=Lib.hid hQ;have HRD3:=Lib.hid hrd3;have HK3:=Lib.hid (HK2.out.trans hk3);have HK23:=Lib.hid hk3;clear hM hbd3 hq3 hN3 hQ hrd3 hk3 hrg HRD2 HK2;obtain ⟨L,hL⟩:∃ L,takeN N3 (Q:Int)=L:=⟨_,rfl⟩;obtain ⟨bd4,hbd4⟩:∃ bd4,(bd3 || takeF N3 (Q:Int))=bd4:=⟨_,rfl⟩;have hLQ:L≤1000000000:=by rw [← hL];unfold takeN;split <;> omega
 have HLE:=Lib.hid hL;have HBD4:=Lib.hid hbd4;clear hL hbd4;go_wp2_with fail;refine (stake_any B rp N3 (Q:Int) q3 bd3 w3 HRD3.out HN3.out).mono ?_;rw [HLE.out,HBD4.out];rintro e w4 ⟨⟨A4,rfl,hr4⟩,hrd4,hk4⟩;obtain ⟨vb,hvb⟩:∃ vb,q3.take L=vb:=⟨_,rfl⟩;rw [hvb] at hr4;have HVB:=Lib.hid hvb;have HVV:=Lib.hid (show ∀ x ∈ vb,0≤x∧x≤255 from fun x hx=>HV1.out x (List.mem_of_mem_drop (List.mem_of_mem_drop (by rw [HQ3.out];exact List.mem_of_mem_take (by rw [hvb];exact hx)))))
 have HVL:=Lib.hid (show vb.length=L from by
  rw [← hvb,List.length_take,HN3.out];have h1:=HLE.out;by_cases h2:Q≤N3
  ·have h3:=(takeN_yes h2).1;omega
  ·have h3:=(takeN_no (show N3 < Q by omega)).1;omega)
 have HR4:=Lib.hid hr4;obtain ⟨_,_,_,hblk4,_⟩:=hrd4;have hbad:w4.cell? ⟨rp,1,none⟩=some (.bool bd4):=by rw [hblk4.cell];rfl
 have HBAD:=Lib.hid hbad;have HK4:=Lib.hid (HK3.out.trans hk4);have HK24:=Lib.hid (HK23.out.trans hk4);have HT4:=Lib.hid (show Tab64 w4 from HT2.out.kp HK24.out (fun hm=>HRTB.out (List.mem_singleton.1 hm).symm));clear hvb hr4 hblk4 hk4 HRD3 HK3 HK23 hbad HT2;go_wp2_with fail;refine (vread_any (M:Int) A4 L L B (vb.map Int.toNat) w4 (by rw [intsN_bytes HVV.out];exact HR4.out) (by rw [List.length_map];exact HVL.out) hLQ (toNat_lt8 HVV.out)).mono ?_;intro e w5 hvp;obtain ⟨hk5,hvp⟩:=hvp;have hb5:w5.cell? ⟨rp,1,none⟩=some (.bool bd4):=hk5.cell HBAD.out (by simp)
 obtain ⟨u,y,rfl,hvp2⟩:∃ (u:Value) (y:Int),e=.returned (.tuple #[u,.int .i64 y])∧((y=0∧readE (M:Int) (vb.map Int.toNat)=0∧∃ S pv,u=.pointer (some ⟨pv,0,none⟩)∧VecM w5 S pv (bitsOf M (packN 8 (vb.map Int.toNat))) false∧∀ x ∈ S,w4.heap.size≤x) ∨ (y ≠ 0∧readE (M:Int) (vb.map Int.toNat) ≠ 0)):=by
  rcases hvp with ⟨h1,h2⟩ | ⟨h1,_,_,_,S,pv,h2,h3,h4⟩
  ·exact ⟨_,_,h2,.inr ⟨h1,h1⟩⟩
  ·exact ⟨_,_,h2,.inl ⟨rfl,h1,S,pv,rfl,h3,h4⟩⟩
 have HVP:=Lib.hid hvp2;have HK5:=Lib.hid (HK4.out.trans hk5.nil);have HK45:=Lib.hid hk5
 have HTL:=Lib.hid (show x=0→k=33+(sgB b).length→bd=false→(¬ BadB b→bd4=false∧readE (M:Int) (vb.map Int.toNat)=0∧M=manyN b∧vb.map Int.toNat=vbB b)∧(GoodC (b.drop 4)→bd4=false→readE (M:Int) (vb.map Int.toNat)=0→¬ BadB b) from fun _ hk hbd=>by
  have hdk:(b.drop 4).drop k=b.drop (atB b):=by
   rw [List.drop_drop,hk]
   congr 1
   unfold atB;omega
  have a1:=HN2.out;have a2:=HMV.out;have a3:=HQ3.out;have a4:=HN3.out;have a5:=HLE.out;have a6:=HBD4.out;have a7:=HBD3.out;have a8:=HVB.out;rw [hdk] at a1 a2 a3;rw [← a3] at a4 a8;rw [← HQQ.out] at a5 a6;rw [hbd,Bool.false_or] at a7
  have key:¬ numA b (atB b) < 0→¬ b.length < atB b+4+(manyN b+7) / 8→bd4=false∧M=manyN b∧vb.map Int.toNat=vbB b:=fun h7 h8=>by
   obtain ⟨t1,t2,t3,t4⟩:=tail_ok h7 h8 a1 a2 a4;refine ⟨by rw [← a6,← a7,t2,t3];rfl,t1,?_⟩;rw [← a8,← a5];exact t4
  refine ⟨fun hn=>?_,fun hg hb4 hre=>?_⟩
  ·have h7:¬ numA b (atB b) < 0:=fun h9=>hn (.inr (.inr (.inr (.inr (.inr (.inr (.inl h9)))))))
   have h8:¬ b.length < atB b+4+(manyN b+7) / 8:=fun h9=>hn (.inr (.inr (.inr (.inr (.inr (.inr (.inr (.inl h9))))))))
   obtain ⟨t1,t2,t3⟩:=key h7 h8;refine ⟨t1,?_,t2,t3⟩;rw [t3,t2];exact Classical.byContradiction fun h9=>hn (.inr (.inr (.inr (.inr (.inr (.inr (.inr (.inr h9))))))))
  ·rw [← a6,← a7] at hb4
   have f2:takeF N2 4=false:=by
    cases hf:takeF N2 4 with
    | false=>rfl
    | true=>rw [hf] at hb4;simp at hb4
   have f3:takeF N3 (((M+7) / 8:Nat):Int)=false:=by rw [f2,Bool.false_or] at hb4;exact hb4
   obtain ⟨h7,h8⟩:=tail_back a1 a2 a4 f2 f3;obtain ⟨t1,t2,t3⟩:=key h7 h8;obtain ⟨g1,g2,g3,g4⟩:=hg;rw [List.length_drop] at g1 g3;rw [sgC_B] at g3;rw [smC_B,lsC_B] at g4;rw [t3,t2] at hre;intro hbad;rcases hbad with h | h | h | h | h | h | h | h | h
   ·rw [HVA.out] at h;omega
   ·rw [HVA.out] at h;omega
   ·omega
   ·exact h g2
   ·unfold atB at h;omega
   ·exact h g4
   ·exact h7 h
   ·exact h8 h
   ·exact h hre)
 clear hvp hvp2 hk5 HMV HBD3 HQ3 HN3 HQQ HLE HBD4 HVB HVV HVL HR4 HBAD HN2;by_cases hx:x=0
 case neg =>
  have hx0:(x != 0)=true:=by simpa using hx
  have HNG:=Lib.hid (show ¬ GoodC (b.drop 4) from by
   rcases HCASE.out with ⟨h,_⟩ | ⟨_,h⟩
   ·exact absurd h hx
   ·exact h)
  have HNO:=Lib.hid (show readTx b=none from readTx_bad (by rw [HVA.out];omega) (Classical.byContradiction fun hn=>by exact hn (bad_code HNG.out)));go_wp2_with fail;go_ret2;exact ⟨HK5.out,.inl ⟨HNO.out,_,rfl⟩⟩
 subst hx
 have HG:=Lib.hid (show GoodC (b.drop 4)∧k=33+(sgB b).length∧bd=false∧∃ p lo hi,v=.pointer (some ⟨p,0,none⟩)∧CodeM w2 lo hi p (TB b) (sgB b) (lsB b)∧w1.heap.size≤lo∧hi≤w2.heap.size from by
  rcases HCASE.out with ⟨_,h⟩ | ⟨h,_⟩
  ·exact h
  ·exact absurd rfl h)
 have HTT:=Lib.hid (HTL.out rfl HG.out.2.1 HG.out.2.2.1);clear HCASE HTL;by_cases hy:y=0
 case neg =>
  have hy0:(y != 0)=true:=by simpa using hy
  have HNE:=Lib.hid (show readE (M:Int) (vb.map Int.toNat) ≠ 0 from by
   rcases HVP.out with ⟨h,_⟩ | ⟨_,h⟩
   ·exact absurd h hy
   ·exact h)
  have HNO:=Lib.hid (show readTx b=none from readTx_bad (by rw [HVA.out];omega) (Classical.byContradiction fun hn=>by exact HNE.out (HTT.out.1 hn).2.1));go_wp2_with fail;go_ret2;exact ⟨HK5.out,.inl ⟨HNO.out,_,rfl⟩⟩
 subst hy
 cases bd4 with
 | true =>
   have HNO:=Lib.hid (show readTx b=none from readTx_bad (by rw [HVA.out];omega) (Classical.byContradiction fun hn=>by exact absurd (HTT.out.1 hn).1 (by decide)));go_wp2_with fail;go_ret2;exact ⟨HK5.out,.inl ⟨HNO.out,_,rfl⟩⟩
 | false =>
   obtain ⟨hre,S,pv,rfl,hvec,hS⟩:readE (M:Int) (vb.map Int.toNat)=0∧∃ S pv,u=.pointer (some ⟨pv,0,none⟩)∧VecM w5 S pv (bitsOf M (packN 8 (vb.map Int.toNat))) false∧∀ x ∈ S,w4.heap.size≤x:=by
    rcases HVP.out with ⟨_,h⟩ | ⟨h,_⟩
    ·exact h
    ·exact absurd rfl h
   obtain ⟨hg,_,_,p,lo,hi,rfl,hcode,hlo,hhi⟩:=HG.out;have hnb:=HTT.out.2 hg rfl hre;obtain ⟨_,_,hm,hvb⟩:=HTT.out.1 hnb;have HNB:=Lib.hid hnb
   have HV5:=Lib.hid (show VecM w5 S pv (LB b) false from by
    unfold LB;rw [← hm,← hvb]
    exact hvec)
   have HC5:=Lib.hid (show CodeM w5 lo hi p (TB b) (sgB b) (lsB b) from (hcode.kp HK24.out (fun g hg=>by rw [List.mem_singleton.1 hg];have:=HSZ1.out.2;omega)).kp0 HK45.out);have HLL:=Lib.hid (show (LB b).length=M from by unfold LB;rw [bitsOf_len,← hm]);have HSN:=Lib.hid hS;have HBH:=Lib.hid (show hi≤w4.heap.size∧w4.heap.size≤w5.heap.size∧w.heap.size≤w4.heap.size from ⟨Nat.le_trans hhi HK24.out.size,HK45.out.size,HK4.out.size⟩);have HT5:=Lib.hid (HT4.out.kp0 HK45.out);have HVN:=Lib.hid (show (numA b 0).toNat=V from by rw [HVA.out];rfl);clear hre hvec hS hg hcode hlo hhi hnb hm hvb HVP HG HTT HK4 HK24 HK45 HT4;go_wp2_with fail;refine (fread_any lo hi p pv V M S false (TB b) (sgB b) (lsB b) (LB b) w5 HC5.out HV5.out HLL.out (fun k ts a hk h=>HFIT.out.all (by rw [HVA.out];omega) HNB.out k ts a (by rw [HVN.out];exact hk) h) (by omega) (Nat.le_trans HBH.out.1 HBH.out.2.1) (fun g hg=>.inr (Nat.le_trans HBH.out.1 (HSN.out g hg))) HT5.out (fun hm=>by have h1:=HSN.out _ hm;have h2:=HT.out.lt;have h3:=HBH.out.2.2;omega)).mono ?_;rintro e w6 ⟨⟨S',c',hv',hg',hk6⟩,⟨hno,rfl⟩ | ⟨ts,Sf,f,lo2,hi2,hyes,htex,hlen,hV3,rfl,hfr,hl2,hh2⟩⟩
   ·have HK6:=Lib.hid (show Kp [rp] w w6 from HK5.out.trans' hk6 (fun x hx=>.inr (Nat.le_trans HBH.out.2.2 (HSN.out x hx))));have HNO:=Lib.hid (show readTx b=none from by rw [readTx_go (by rw [HVA.out];omega) HNB.out,HVN.out];exact hno);clear hv' hg' hk6 hno;go_wp2_with fail;refine (nflen_any (.pointer none) w6 (.inl rfl)).mono ?_;rintro e w7 ⟨rfl,rfl⟩;go_wp2_with fail
    go_loopw [69] (fun x wr=>x=.int .i64 0∧w6=wr) (fun _ _=>0)
    case atStart=>exact ⟨rfl,rfl⟩
    case round =>
     obtain ⟨rfl,rfl⟩:=hrel;go_wp2_with fail;go_ret2;exact ⟨HK6.out,.inl ⟨HNO.out,_,rfl⟩⟩
   ·have HK6:=Lib.hid (show Kp [rp] w w6 from HK5.out.trans' hk6 (fun x hx=>.inr (Nat.le_trans HBH.out.2.2 (HSN.out x hx))));have HYES:=Lib.hid (show readTx b=some ts from by rw [readTx_go (by rw [HVA.out];omega) HNB.out,HVN.out];exact hyes);have HT6:=Lib.hid (HT5.out.kp hk6 (fun hm=>by have h1:=HSN.out _ hm;have h2:=HT.out.lt;have h3:=HBH.out.2.2;omega));have HSF:=Lib.hid (show ∀ g ∈ Sf,lo2≤g from hfr.low13)
    have HF:=Lib.hid (show Fro w6 lo2 hi2 lo hi Sf f p (TB b) (sgB b) (lsB b) ts from
     ⟨hfr,HC5.out.kp hk6 (fun g hg=>.inr (Nat.le_trans HBH.out.1 (HSN.out g hg))),fun g hg=>.inr (by have h1:=hfr.low13 g hg;have h2:=HBH.out;omega),HT6.out,fun hm=>by have h1:=hfr.low13 _ hm;have h2:=HT.out.lt;have h3:=HBH.out;omega,⟨by have h1:=hk6.size;have h2:=HBH.out;omega,hh2⟩,htex⟩)
    have HLEN:=Lib.hid hlen;have HH:=Lib.hid (show hi2≤w6.heap.size∧hi≤w6.heap.size∧w.heap.size≤w6.heap.size from ⟨hh2,by have h1:=hk6.size;have h2:=HBH.out;omega,HK6.out.size⟩);have HLW:=Lib.hid (show w.heap.size≤lo2 from by have h2:=HBH.out;omega);clear hv' hg' hk6 hyes htex hlen hfr hl2 hh2 HV5 HC5 HT5 HT6 HLL;go_wp2_with fail;refine (flen_any V w6 HF.out.fr HLEN.out).mono ?_;rintro e w7 ⟨rfl,rfl⟩;go_wp2_with fail
    go_loopw [2,69] (fun s x wr=>∃ (k c:Nat) (A:Option Addr) (S':List Nat),s=.slice A k c∧x=.int .i64 (k:Int)∧k≤V∧Hid (wr.ownsRow w6.heap.size 9 1 (.slice A k c) k ((ts.take k).map .string))∧Hid (Fro wr lo2 hi2 lo hi S' f p (TB b) (sgB b) (lsB b) ts)∧Hid (∀ g ∈ S',lo2≤g∧g ∉ ownL (.slice A k c))∧Hid (Kp [rp] w wr)∧Hid (w6.heap.size≤wr.heap.size)) (fun _ x _=>V - (intOf x).toNat)
    case atStart=>exact ⟨0,0,none,Sf,rfl,rfl,by omega,Lib.hid (World.ownsRow_nil _ _ _ 1),HF,Lib.hid (fun g hg=>⟨HSF.out g hg,by simp [mem_ownL,Value.ownBlock]⟩),HK6,Lib.hid (Nat.le_refl _)⟩
    case round =>
     clear HF HSF HK6;obtain ⟨k,c,A,S',rfl,rfl,hk,HO,HF,HD,HK,HZ⟩:=hrel;by_cases hlt:k < V
     ·obtain ⟨s,hs⟩:∃ s,ts[k]? = some s:=⟨_,List.getElem?_eq_getElem (by rw [HLEN.out];exact hlt)⟩;have HS:=Lib.hid hs;clear hs;go_wp2_with fail;refine (ftext_in k V lo2 hi2 lo hi f p S' (TB b) (sgB b) (lsB b) ts s wr HF.out HLEN.out (by omega) HS.out).mono ?_;rintro e w8 ⟨rfl,S8,hf8,hg8,hk8⟩;have HO8:=Lib.hid (own_kp HO.out hk8 (fun g hg hm=>(HD.out g hm).2 (mem_ownL.2 hg)));have HF8:=Lib.hid hf8
      have HD8:=Lib.hid (show ∀ g ∈ S8,lo2≤g∧g ∉ ownL (.slice A k c)∧g < w8.heap.size from fun g hg=>by
       refine ⟨?_,?_,hf8.lt g hg⟩
       ·rcases hg8 g hg with h | h
        ·exact (HD.out g h).1
        ·have h1:=HF.out.fr.1;have h2:=HF.out.fr.2.1;have h3:=HH.out.1;have h5:=HZ.out;omega
       ·rcases hg8 g hg with h | h
        ·exact (HD.out g h).2
        ·exact fun hm=>by have:=(own_ge HO.out (mem_ownL.1 hm)).2;omega)
      have HK8:=Lib.hid (show Kp [rp] w w8 from HK.out.trans' hk8 (fun x hx=>.inr (Nat.le_trans HLW.out (HD.out x hx).1)));have HZ8:=Lib.hid (Nat.le_trans HZ.out hk8.size);clear hf8 hg8 hk8 HO HF HD HK HZ
      go_wp2_with (at_builtin;go_loud (refine wpList_append_rd rfl (.tmp 78) (.tmp 80) 22 rfl (w6.heap.size) 9 i0 (.string ⟨#[]⟩) 1 16 Tryz.underlying22 hi0 hz0 hz1 hz2 rfl (by decide) (.slice A k c) (k) _ rfl (own_kp0 HO8.out ((Kp.refl [] _).alloc _)) _ _ 1 1 [.string s] rfl rfl (Rd.new w8 #[.string s] 9 (0,0)) (by intro u hu;simp at hu;subst hu;rfl) (by unfold maxLen;omega) (by omega) (by have:=HZ8.out;simp;omega) ?_);intro v9 w9 hown9 hgrow9 hat9;obtain ⟨hka9,hga9⟩:=app_facts hgrow9 hat9;obtain ⟨A9',c9',rfl,_⟩:=own_form hown9)
      exact ⟨⟨k+1,c9',A9',S8,rfl,by go_num,by omega,Lib.hid (by rw [List.take_add_one,HS.out,List.map_append];exact hown9),Lib.hid (HF8.out.kp hka9 (fun g hg=>by
       have h1:=(own_ge HO8.out (mem_ownL.1 hg)).1;have h2:=HH.out;have h3:=HT.out.lt
       exact ⟨fun hm=>(HD8.out g hm).2.1 hg,.inr (by omega),.inr (by omega),by omega⟩)),Lib.hid (fun g hg=>⟨(HD8.out g hg).1,fun hm=>by
        rcases hga9 g hm with h | h
        ·exact (HD8.out g hg).2.1 h
        ·have:=(HD8.out g hg).2.2;omega⟩),Lib.hid (HK8.out.trans' hka9 (fun x hx=>.inr (by have h1:=(own_ge HO8.out (mem_ownL.1 hx)).1;have h2:=HH.out;omega))),Lib.hid (Nat.le_trans HZ8.out hka9.size)⟩,by simp [intOf];omega⟩
     ·obtain rfl:k=V:=by omega
      have HRD:=Lib.hid (show Rd wr wr.heap.size A (ts.map .string) from by
       have h1:=own_rd HO.out
       rwa [List.take_of_length_le (by rw [HLEN.out];exact Nat.le_refl _)] at h1)
      go_wp2_with fail;go_ret2;exact ⟨HK.out,.inr ⟨ts,A,k,c,HYES.out,rfl,HRD.out,HLEN.out⟩⟩
theorem ssize_any (A:Option Addr) (n c B:Nat) (ss:List ByteArray) (w:World) (hx:Rd w B A (ss.map .string)) (hn:ss.length=n) (hb:n≤140737488351232) (hl:∀ s ∈ ss,s.size≤140737488351232) :
  Calls Tryz.prog 9 #[.slice A n c] w fun e w'=>(∃ Z:Nat,e=.returned (.int .i64 (Z:Int))∧Z≤562949953421312∧n≤Z∧(Z≤900→(symL ss).length≤Z))∧w=w':=by
 have HX:=Lib.hid hx;clear hx;have HN:=Lib.hid hn;clear hn;have HL:=Lib.hid hl;clear hl
 go_enter Tryz.func9,Tryz.ntmps9
 go_wp2_with fail
 go_loopw [3,4] (fun y x wr=>∃ k N:Nat,x=.int .i64 (k:Int)∧y=.int .i64 (N:Int)∧k≤n∧n≤N∧N≤562949953421312∧Hid ((symL (ss.take k)).length+n=N+k)∧w=wr) (fun _ x _=>n - (intOf x).toNat)
 case atStart=>exact ⟨0,n,rfl,rfl,by omega,by omega,by omega,Lib.hid (by simp [symL]),rfl⟩
 case round =>
  obtain ⟨k,N,rfl,rfl,hk,hnN,hNb,HA,rfl⟩:=hrel;by_cases hlt:k < n
  ·by_cases hN:N≤900
   ·obtain ⟨s,ad,hs,rfl,_,hcs⟩:=HX.out.str (k:=k) (by rw [HN.out];exact hlt);have hsz:s.size≤140737488351232:=HL.out _ (List.mem_of_getElem? hs);obtain ⟨L1,hL1⟩:∃ L1,L1=s.size:=⟨_,rfl⟩;rw [← hL1] at hsz;obtain ⟨N1,hN1⟩:∃ N1,N1=N+L1:=⟨_,rfl⟩
    have HA2:=Lib.hid (show (symL (ss.take (k+1))).length+n=N1+(k+1) from by
     rw [take_succ_of hs,symL_snoc,List.length_append,symT_len,← hL1];have:=HA.out
     omega)
    have hs1:IntKind.i64.wrap ((N:Int)+(L1:Int))=(N1:Int):=by rw [IntKind.wrap_i64];omega
    have hi0:(0:Int)≤(k:Int):=by omega
    have hi1:(k:Int) < (n:Int):=by omega
    have hnN1:n≤N1:=by omega
    have hN1b:N1≤562949953421312:=by omega
    clear hN1 HA hs;rw [hL1] at hs1;clear hL1;go_wp2_with fail;exact ⟨⟨k+1,N1,by go_num,rfl,by omega,hnN1,hN1b,HA2,trivial⟩,by simp [intOf];omega⟩
   ·go_wp2_with fail;go_ret;exact ⟨⟨N,rfl,by omega,hnN,fun h=>by omega⟩,rfl⟩
  ·obtain rfl:k=n:=by omega
   go_wp2_with fail;go_ret;exact ⟨⟨N,rfl,by omega,hnN,fun h=>by have:=HA.out;rw [← HN.out,List.take_length] at this;omega⟩,rfl⟩
theorem sbytes_any {X Y:Nat} (S:List Nat) (sp g m c:Nat) (v:Value) (ts:List ByteArray) (bs:List Int) (w:World) (h:SecM X Y w S sp v g m c ts) (hr:Rd w w.heap.size (some ⟨g,0,none⟩) (bs.map (.int .u8))) (hl:bs.length=m) (hm:m≤1000000000):Calls Tryz.prog 19 #[.pointer (some ⟨sp,0,none⟩)] w fun e w'=>∃ (A':Option Addr) (c':Nat),e=.returned (.slice A' m c')∧w'.ownsRow w.heap.size 5 1 (.slice A' m c') m (bs.map (.int .u8))∧Kp [] w w':=by
 obtain ⟨hc0,hc1⟩:=h.cells;have H:=Lib.hid h;have HR:=Lib.hid hr;have HLB:=Lib.hid hl;clear h hr hl
 go_enter Tryz.func19,Tryz.ntmps19
 go_wp2_with fail;refine (sthere_any w H.out).mono ?_;rintro e w1 ⟨rfl,rfl⟩;go_wp2_with fail;refine (cloneB (some ⟨g,0,none⟩) m c _ bs w HR.out HLB.out hm).mono ?_;rintro e w1 ⟨A',c',rfl,ho,hk⟩;have HO:=Lib.hid ho;have HK:=Lib.hid hk;clear ho hk;go_wp2_with fail;go_ret;exact ⟨A',c',rfl,HO.out,HK.out⟩
theorem same13_any {X Y:Nat} (t:ByteArray) (i:Int) (sp g m c lo hi r ct cb n m':Nat) (At Ab:Option Addr) (S:List Nat) (v:Value) (ts:List ByteArray) (bs:List Int) (w:World) (h:SecM X Y w S sp v g m c ts) (hr:Rd w w.heap.size (some ⟨g,0,none⟩) (bs.map (.int .u8))) (hl:bs.length=m) (hm:m≤1000000000) (hg:g ∉ S) (hgw:g < w.heap.size) (h':RsM w lo hi r ts At Ab ct cb n m' bs) (hS:∀ x ∈ S,x < lo ∨ hi≤x) (hrw:hi≤w.heap.size) (ht:t.size≤1000000000000) (hz:∀ x ∈ ts,x.size≤1000000000000) (hi1:-9223372036854775808≤i) (hi2:i≤9223372036854775807) :
  Calls Tryz.prog 21 #[.pointer (some ⟨sp,0,none⟩),.pointer (some ⟨r,0,none⟩),.string t,.int .i64 i] w fun e w'=>e=.returned (.bool true)∧Kp S w w':=by
 have hn9:n≤1000000:=by rw [← h'.nt];exact h.2.1.2.1
 have HRI:=Lib.hid h.2.1.1;have H:=Lib.hid h;have HRW:=Lib.hid hr;have HLB:=Lib.hid hl;have HG:=Lib.hid (show g ∉ S∧g < w.heap.size from ⟨hg,hgw⟩);have HR:=Lib.hid h';have HS:=Lib.hid hS;have HZ:=Lib.hid hz;clear h hr hl hg hgw h' hS hz;obtain ⟨X,hX⟩:∃ X:Int,(if isF ts t then ((findN ts t:Nat):Int)+1 else 0)=X:=⟨_,rfl⟩;obtain ⟨F,hF⟩:∃ F,isF ts t=F:=⟨_,rfl⟩;obtain ⟨P,hP⟩:∃ P:Nat,findN ts t+1=P:=⟨_,rfl⟩;obtain ⟨Q,hQ⟩:∃ Q:Nat,findN ts t+1+preC ts t=Q:=⟨_,rfl⟩;obtain ⟨a,b,hab⟩:=textV_form ts (i - 1);have HX:=Lib.hid hX;have HF:=Lib.hid hF;have HP:=Lib.hid hP;have HQ:=Lib.hid hQ;have HAB:=Lib.hid hab;clear hX hF hP hQ hab
 go_enter Tryz.func21,Tryz.ntmps21
 go_wp2_with fail;refine (sfind_any t w H.out).mono ?_;rw [HX.out,HF.out];rintro e w1 ⟨rfl,S1,hs1,hg1,hk1⟩;have HKA:=Lib.hid (Kp.refl S w);have HGA:=Lib.hid (show ∀ x ∈ S,x ∈ S ∨ w.heap.size≤x from fun x hx=>Or.inl hx);have HG2:=Lib.hid (show (∀ x ∈ S1,x ∈ S ∨ w.heap.size≤x) from fun x hx=>(hg1 x hx).elim (HGA.out x) (fun h=>.inr (Nat.le_trans HKA.out.size h)));have HK2:=Lib.hid (show Kp S w w1 from HKA.out.trans' hk1 (fun x hx=>HGA.out x hx));have HR2:=Lib.hid (HR.out.kp hk1 (fun x hx=>(HGA.out x hx).elim (HS.out x) (fun h=>.inr (Nat.le_trans hrw h))));have HS2:=Lib.hid hs1
 have HW2:=Lib.hid ((HRW.out.kp_ne hk1 (fun ad e hm=>by
  injection e with e
  subst e;rcases HGA.out _ hm with h | h
  ·exact HG.out.1 h
  ·have h1:=HG.out.2;simp only at h;omega)).bound hk1.size)
 clear hs1 hg1 hk1 HKA HGA H HRW HR;go_wp2_with fail;refine (rsfind_any t w1 HR2.out hn9 HRI.out).mono ?_;rw [HX.out,HF.out];rintro e w1' ⟨rfl,rfl⟩;go_wp2_with fail;refine (stext_any i w1 HS2.out hi2).mono ?_;rw [HAB.out];rintro e w2 ⟨rfl,S3,hs1,hg1,hk1⟩;have HGB:=HG2;have HKB:=HK2;have HRB:=HR2;have HWB:=HW2;clear HG2 HK2 HR2 HS2 HW2;have HG2:=Lib.hid (show (∀ x ∈ S3,x ∈ S ∨ w.heap.size≤x) from fun x hx=>(hg1 x hx).elim (HGB.out x) (fun h=>.inr (Nat.le_trans HKB.out.size h)));have HK2:=Lib.hid (show Kp S w w2 from HKB.out.trans' hk1 (fun x hx=>HGB.out x hx));have HR2:=Lib.hid (HRB.out.kp hk1 (fun x hx=>(HGB.out x hx).elim (HS.out x) (fun h=>.inr (Nat.le_trans hrw h))));have HS2:=Lib.hid hs1
 have HW2:=Lib.hid ((HWB.out.kp_ne hk1 (fun ad e hm=>by
  injection e with e
  subst e;rcases HGB.out _ hm with h | h
  ·exact HG.out.1 h
  ·have h1:=HG.out.2;simp only at h;omega)).bound hk1.size)
 clear hs1 hg1 hk1 HGB HKB HRB HWB;go_wp2_with fail;refine (rstext_any i w2 HR2.out hn9 hi1).mono ?_;rw [HAB.out];rintro e w2' ⟨rfl,rfl⟩;go_wp2_with fail;refine (sprefix_any t w2 HS2.out ht HZ.out).mono ?_;rw [HQ.out,HP.out];rintro e w3 ⟨rfl,S4,hs1,hg1,hk1⟩;have HGB:=HG2;have HKB:=HK2;have HRB:=HR2;have HWB:=HW2;clear HG2 HK2 HR2 HS2 HW2;have HG2:=Lib.hid (show (∀ x ∈ S4,x ∈ S ∨ w.heap.size≤x) from fun x hx=>(hg1 x hx).elim (HGB.out x) (fun h=>.inr (Nat.le_trans HKB.out.size h)));have HK2:=Lib.hid (show Kp S w w3 from HKB.out.trans' hk1 (fun x hx=>HGB.out x hx));have HR2:=Lib.hid (HRB.out.kp hk1 (fun x hx=>(HGB.out x hx).elim (HS.out x) (fun h=>.inr (Nat.le_trans hrw h))));have HS2:=Lib.hid hs1
 have HW2:=Lib.hid ((HWB.out.kp_ne hk1 (fun ad e hm=>by
  injection e with e
  subst e;rcases HGB.out _ hm with h | h
  ·exact HG.out.1 h
  ·have h1:=HG.out.2;simp only at h;omega)).bound hk1.size)
 clear hs1 hg1 hk1 HGB HKB HRB HWB;go_wp2_with fail;refine (rsprefix_any t w3 HR2.out hn9 HRI.out HZ.out ht).mono ?_;rw [HQ.out,HP.out];rintro e w3' ⟨rfl,rfl⟩;obtain ⟨hc0,hc1⟩:=HR2.out.cells;have HNT:=Lib.hid HR2.out.nt;have hnt:=HNT.out;have hmm:m'=m:=by rw [← HR2.out.nb,HLB.out]
 subst hmm;clear hnt;go_wp2_with fail
 go_region_held3 (fun w'=>w'.cell? ⟨r,0,none⟩=some (.slice At n ct)∧w'.cell? ⟨r,1,none⟩=some (.slice Ab m' cb)) (go_keep)
  (first
   | (go_at_call 27
      refine (slen_any _ (HS2.out.kp0 ((Kp.refl [] w3).drew))).mono ?_;rw [HNT.out]
      rintro e w4 ⟨rfl,rfl⟩)
   | (go_at_call 19
      refine (sbytes_any S4 sp g m' c v ts bs _ (HS2.out.kp0 ((Kp.refl [] w3).drew)) ((HW2.out.kp0 ((Kp.refl [] w3).drew)).bound ((Kp.refl [] w3).drew).size) HLB.out hm).mono ?_;rintro e w4 ⟨A4,c4,rfl,hown4,hk4⟩;have HA4:=Lib.hid (own_rd hown4);have HK4:=Lib.hid (((Kp.refl [] w3).drew).trans hk4);have hc04:=HK4.out.cell hc0 (by simp);have hc14:=HK4.out.cell hc1 (by simp)
      clear hown4 hk4 hc0 hc1)
   | (go_at_call 28
      refine (sameB A4 Ab m' m' c4 cb _ _ bs bs w4 HA4.out (HR2.out.kp0 HK4.out).rb HLB.out HLB.out hm hm).mono ?_;rw [decide_eq_true rfl];rintro e w5 ⟨rfl,hd5⟩;have HK5:=Lib.hid (HK4.out.trans (hd5.kp []));have hc05:=(hd5.kp []).cell hc04 (by simp);have hc15:=(hd5.kp []).cell hc14 (by simp)
      clear hd5 hc04 hc14))
 go_wp2_with fail;go_ret;exact ⟨rfl,HK2.out.trans (HK5.out.mono (by simp))⟩
def abT:List ByteArray:=[⟨#[97]⟩,⟨#[97,98]⟩,⟨#[98]⟩]
theorem abT_a:findN abT ⟨#[97]⟩=0∧preC abT ⟨#[97]⟩=2:=by decide +kernel
theorem abT_c:findN abT ⟨#[99]⟩=3∧preC abT ⟨#[99]⟩=0:=by decide +kernel
theorem abT_b:findN abT ⟨#[98]⟩=2∧isF abT ⟨#[98]⟩=true:=by decide +kernel
theorem abT_rise:riseT abT=true:=by decide +kernel
theorem abT_sym:(symL abT).length≤29000:=by decide +kernel
theorem abT_size:∀ t ∈ abT,t.size≤1000000000000:=by decide +kernel
theorem rd_ab (w:World):Rd (w.alloc (.cells #[.string ⟨#[97]⟩,.string ⟨#[97,98]⟩,.string ⟨#[98]⟩] 9)) (w.heap.size+1) (some ⟨w.heap.size,0,none⟩) (abT.map .string):=Rd.new w _ 9 (0,0)
theorem awake_s (w:World) (ht:Tab64 w):Calls Tryz.prog 8 #[] w fun e w'=>e=.returned (.bool true)∧Kp [] w w':=by
 have HT:=Lib.hid ht;clear ht
 go_enter Tryz.func8,Tryz.ntmps8
 go_wp2_with fail;refine (sof_any none 0 0 0 [] w (Rd.nil _ _ _) rfl (by simp [symL]) (Nat.zero_le _) HT.out).mono ?_;rintro e w1 ⟨hk1,⟨hr,_⟩ | ⟨_,S1,z,v1,g1,m1,c1,rfl,hz,hS1,_,_,_,bs1,hl1,_,hrw1,hnil1⟩⟩
 ·cases hr
 rw [secBytes_nil] at hnil1;subst hnil1;obtain rfl:m1=4:=by rw [← hl1];rfl
 have HZ:=Lib.hid hz;have HRW:=Lib.hid hrw1;have HK:=Lib.hid hk1;have HT1:=Lib.hid (HT.out.kp0 hk1);clear hz hS1 hl1 hrw1 hk1;go_wp2_with fail;obtain ⟨w2,hw2⟩:∃ w2,w2=w1.alloc (.cells #[.string ⟨#[97]⟩,.string ⟨#[97,98]⟩,.string ⟨#[98]⟩] 9):=⟨_,rfl⟩;obtain ⟨b,hb⟩:∃ b,b=w1.heap.size:=⟨_,rfl⟩;have hx:=rd_ab w1;rw [← hw2,← hb] at hx;rw [← hw2,← hb];have hk2:Kp [] w1 w2:=by rw [hw2];exact (Kp.refl [] w1).alloc _
 have hs2:b+1≤w2.heap.size:=by rw [hw2,hb];simp
 refine (sof_any (some ⟨b,0,none⟩) 3 3 _ abT w2 hx rfl abT_sym hs2 (HT1.out.kp0 hk2)).mono ?_;rintro e w3 ⟨hk3,⟨hr,_⟩ | ⟨_,S2,sp,v2,g2,m2,c2,rfl,hsec,hS2,_,_⟩⟩
 ·rw [abT_rise] at hr;cases hr
 have HS:=Lib.hid hsec;have HSN:=Lib.hid (show ∀ x ∈ S2,w2.heap.size≤x from hS2);have HH2:=Lib.hid (show w.heap.size≤w2.heap.size from Nat.le_trans HK.out.size hk2.size);have HZ2:=Lib.hid (show w2.heap.size≤w3.heap.size from hk3.size);replace HK:=Lib.hid (HK.out.trans (hk2.trans hk3));replace HZ:=Lib.hid (HZ.out.kp0 (hk2.trans hk3));replace HRW:=Lib.hid ((HRW.out.kp0 (hk2.trans hk3)).bound (hk2.trans hk3).size);clear hw2 hb hx hk2 hs2 hk3 hsec hS2 HT1;go_wp2_with fail;refine (sbytes_any S1 z g1 4 c1 v1 [] (fourI 0) w3 HZ.out HRW.out rfl (by omega)).mono ?_;rintro e w4 ⟨A4,c4,rfl,hown4,hk4⟩;have HR4:=Lib.hid (own_rd hown4);replace HK:=Lib.hid (HK.out.trans hk4);have HZ3:=Lib.hid (show w2.heap.size≤w4.heap.size from Nat.le_trans HZ2.out hk4.size);replace HS:=Lib.hid (HS.out.kp0 hk4);clear hk4;clear hown4 HZ HRW;go_wp2_with fail;refine (sameB A4 (some ⟨w4.heap.size,0,none⟩) 4 4 c4 4 _ _ (fourI 0) [0,0,0,0] _ (HR4.out.kp0 ((Kp.refl [] w4).alloc _)) (Rd.new w4 #[.int .u8 0,.int .u8 0,.int .u8 0,.int .u8 0] 5 (0,0)) rfl rfl (by omega) (by omega)).mono ?_;rw [decide_eq_true (show fourI 0=[0,0,0,0] from by decide)];rintro e w5 ⟨rfl,hd5⟩;have hk5:=((Kp.refl [] w4).alloc (.cells #[.int .u8 0,.int .u8 0,.int .u8 0,.int .u8 0] 5)).trans (hd5.kp []);replace HK:=Lib.hid (HK.out.trans hk5);have HZ5:=Lib.hid (show w2.heap.size≤w5.heap.size from Nat.le_trans HZ3.out hk5.size);replace HS:=Lib.hid (HS.out.kp0 hk5);clear hk5;clear hd5 HR4;go_wp2_with fail;refine (sprefix_any ⟨#[97]⟩ w5 HS.out (by decide) abT_size).mono ?_;rw [abT_a.1,abT_a.2];rintro e w6 ⟨rfl,S3,hs3,hg3,hk3⟩;have HS3:=Lib.hid hs3;have HG3:=Lib.hid (show ∀ x ∈ S3,w2.heap.size≤x from fun x hx=>(hg3 x hx).elim (HSN.out x) (fun h=>Nat.le_trans HZ5.out h));have HK3:=Lib.hid (HK.out.trans' hk3 (fun x hx=>.inr (Nat.le_trans HH2.out (HSN.out x hx))));clear hs3 hg3 hk3 HS HK;go_wp2_with fail;refine (sprefix_any ⟨#[99]⟩ w6 HS3.out (by decide) abT_size).mono ?_;rw [abT_c.1,abT_c.2];rintro e w7 ⟨rfl,S4,hs4,hg4,hk4⟩;have HS4:=Lib.hid hs4;have HG4:=Lib.hid (show ∀ x ∈ S4,w.heap.size≤x from fun x hx=>(hg4 x hx).elim (fun h=>Nat.le_trans HH2.out (HG3.out x h)) (fun h=>Nat.le_trans HK3.out.size h));have HK4:=Lib.hid (HK3.out.trans' hk4 (fun x hx=>.inr (Nat.le_trans HH2.out (HG3.out x hx))));clear hs4 hg4 hk4 HS3 HK3 HG3;go_wp2_with fail;refine (sfind_any ⟨#[98]⟩ w7 HS4.out).mono ?_;rw [abT_b.1,abT_b.2];rintro e w8 ⟨rfl,S5,hs5,hg5,hk5⟩;have HK5:=Lib.hid (HK4.out.trans' hk5 (fun x hx=>.inr (HG4.out x hx)));clear hs5 hg5 hk5 HS4 HK4 HG4;go_wp2_with fail;go_ret;exact ⟨rfl,HK5.out⟩
end Go.Proofs.YtanacapkfllbnaaGreatDoor
