/-
  The document's layer 13: Of.
  LAYER 13 (section): SectionOf, the walk.
  The document's layer 13: texts.
  CONDITIONS: as each lemma says.
-/
import Derived.Test.YtanacapkfllbnaaGreatDoorR47
import Derived.Test.YtanacapkfllbnaaGreatDoorR46
import Derived.Test.YtanacapkfllbnaaGreatDoorR41
import Derived.Test.YtanacapkfllbnaaGreatDoorR29
import Derived.Test.YtanacapkfllbnaaGreatDoorR25
import Derived.Test.YtanacapkfllbnaaGreatDoorR42
import Derived.Test.YtanacapkfllbnaaGreatDoorR07
import Derived.Test.YtanacapkfllbnaaGreatDoorR19
import Derived.Deep.RegionLaw
set_option maxRecDepth 100000
set_option maxHeartbeats 4000000
namespace Go.Proofs.YtanacapkfllbnaaGreatDoor
open Go.RowKit

def RSu (w0:World) (a b:Nat) (w:World) (r n ct:Nat) (At:Option Addr) (old:Value) (Ab:Option Addr) (m cb:Nat) (bs:List Int):Prop:=
 Blk w r 55 [.slice At n ct,old]∧w.ownsRow w0.heap.size 5 1 (.slice Ab m cb) m (bs.map (.int .u8))∧r ∉ ownL (.slice Ab m cb)∧w0.heap.size≤r∧b≤w.heap.size∧(∀ g ∈ ownL (.slice Ab m cb),g < a ∨ b≤g)∧(r < a ∨ b≤r)∧Kp [] w0 w
section
variable {w0 w w':World} {a b r n ct m cb:Nat} {At Ab:Option Addr} {old:Value} {bs:List Int}
theorem RSu.kp0 (h:RSu w0 a b w r n ct At old Ab m cb bs) (hk:Kp [] w w'):RSu w0 a b w' r n ct At old Ab m cb bs:=by
 obtain ⟨h1,h2,h3,h4,h5,h6,h7,h8⟩:=h;exact ⟨h1.kp0 hk,own_kp0 h2 hk,h3,h4,Nat.le_trans h5 hk.size,h6,h7,h8.trans hk⟩
theorem RSu.kp {U:List Nat} (h:RSu w0 a b w r n ct At old Ab m cb bs) (hk:Kp U w w') (hU:∀ x ∈ U,x ∉ ownL (.slice Ab m cb)∧x ≠ r∧w0.heap.size≤x):RSu w0 a b w' r n ct At old Ab m cb bs:=by
 obtain ⟨h1,h2,h3,h4,h5,h6,h7,h8⟩:=h;exact ⟨h1.kp hk (fun hm=>(hU r hm).2.1 rfl),own_kp h2 hk (fun x hx hm=>(hU x hm).1 (mem_ownL.2 hx)),h3,h4,Nat.le_trans h5 hk.size,h6,h7,h8.trans' hk (fun x hx=>.inr (hU x hx).2.2)⟩
theorem RSu.app {w1:World} {v:Value} {k:Nat} {ys:List Int} {zs:List Value} (h:RSu w0 a b w r n ct At old Ab m cb bs) (hz:zs=ys.map (.int .u8)) (hk:Kp [] w w1) (ho:w'.ownsRow w0.heap.size 5 1 v (m+k) (bs.map (.int .u8) ++ zs)) (hg:w1.grownBy w' (Value.slice Ab m cb).ownBlock) (hat:v.ownBlock=(Value.slice Ab m cb).ownBlock ∨ v.ownBlock=some w1.heap.size) :
  ∃ (A7:Option Addr) (c7:Nat),v=.slice A7 (m+k) c7∧RSu w0 a b w' r n ct At old A7 (m+k) c7 (bs ++ ys)∧Kp (ownL (.slice Ab m cb)) w w':=by
 subst hz;obtain ⟨h1,h2,h3,h4,h5,h6,h7,h8⟩:=h;obtain ⟨A7,c7,rfl,_⟩:=own_form ho;have hkk:Kp (ownL (.slice Ab m cb)) w w':=hk.nil.trans ((Kp.refl _ w1).grown hg (fun x hx=>.inl (mem_ownL.2 hx)))
 have hnew:∀ g ∈ ownL (.slice A7 (m+k) c7),g ∈ ownL (.slice Ab m cb) ∨ w.heap.size≤g:=fun g hm=>by
  rw [mem_ownL] at hm;rcases hat with e | e
  ·rw [e] at hm;exact .inl (mem_ownL.2 hm)
  ·rw [e] at hm;injection hm with hm
   subst hm;exact .inr hk.size
 have hr:=h1.lt;refine ⟨A7,c7,rfl,⟨h1.kp hkk h3,by rw [List.map_append];exact ho,fun hm=>?_,h4,Nat.le_trans h5 hkk.size,fun g hm=>?_,h7,h8.trans' hkk (fun x hx=>.inr (own_ge h2 (mem_ownL.1 hx)).1)⟩,hkk⟩
 ·rcases hnew r hm with e | e
  ·exact h3 e
  ·omega
 ·rcases hnew g hm with e | e
  ·exact h6 g e
  ·exact .inr (by omega)
theorem RSu.cell (h:RSu w0 a b w r n ct At old Ab m cb bs):w.cell? ⟨r,1,none⟩=some old∧w.frozen? ⟨r,1,none⟩=false:=by
 obtain ⟨h1,_⟩:=h;exact ⟨by rw [h1.cell];rfl,h1.free 1⟩
theorem RSu.set (h:RSu w0 a b w r n ct At old Ab m cb bs):RSu w0 a b (w.setCell ⟨r,1,none⟩ (.slice Ab m cb)) r n ct At (.slice Ab m cb) Ab m cb bs∧Kp [r] w (w.setCell ⟨r,1,none⟩ (.slice Ab m cb)):=by
 obtain ⟨h1,h2,h3,h4,h5,h6,h7,h8⟩:=h;have hks:Kp [r] w (w.setCell ⟨r,1,none⟩ (.slice Ab m cb)):=(Kp.refl _ _).setCell (.inl (by simp)) _;exact ⟨⟨h1.set_ 1 _,own_kp h2 hks (fun g hg hm=>by rw [List.mem_singleton.1 hm] at hg;exact h3 (mem_ownL.2 hg)),h3,h4,Nat.le_trans h5 hks.size,h6,h7,h8.trans' hks (fun x hx=>.inr (by rw [List.mem_singleton.1 hx];exact h4))⟩,hks⟩
theorem RSu.len (h:RSu w0 a b w r n ct At old Ab m cb bs):bs.length=m:=by
 have:=h.2.1.1;rw [List.length_map] at this;omega
theorem RSu.iv {a' b':Nat} {w1:World} (h:RSu w0 a b w r n ct At old Ab m cb bs) (ha:w.heap.size≤a') (hk:Kp [] w w1) (hb:b'≤w1.heap.size):RSu w0 a' b' w1 r n ct At old Ab m cb bs:=by
 have h9:=h.kp0 hk;obtain ⟨h1,h2,h3,h4,h5,h6,h7,h8⟩:=h;obtain ⟨k1,k2,k3,k4,k5,k6,k7,k8⟩:=h9;exact ⟨k1,k2,k3,k4,hb,fun g hg=>.inl (by have:=(own_ge h2 (mem_ownL.1 hg)).2;omega),.inl (by have:=h1.lt;omega),k8⟩
end
def CFr (a b:Nat) (w:World) (p f:Nat) (T:CT) (sg:List Nat) (ls:List Int) (ts:List ByteArray) (At Ab As:Option Addr) (ct cb cs n N m:Nat):Prop:=
 ∃ lo hi lo2 hi2,a≤lo∧hi≤b∧a≤lo2∧hi2≤b∧RCode w lo hi p T sg ls∧RfM w lo2 hi2 f T ts At Ab As ct cb cs n N m
theorem CFr.kp {a b:Nat} {w w':World} {p f:Nat} {T:CT} {sg:List Nat} {ls:List Int} {ts:List ByteArray} {At Ab As:Option Addr} {ct cb cs n N m:Nat} {U:List Nat} (h:CFr a b w p f T sg ls ts At Ab As ct cb cs n N m) (hk:Kp U w w') (hU:∀ g ∈ U,g < a ∨ b≤g):CFr a b w' p f T sg ls ts At Ab As ct cb cs n N m:=by
 obtain ⟨lo,hi,lo2,hi2,h1,h2,h3,h4,h5,h6⟩:=h;exact ⟨lo,hi,lo2,hi2,h1,h2,h3,h4,h5.kp hk (fun g hg=>by have:=hU g hg;omega),h6.kp hk (fun g hg=>by have:=hU g hg;omega)⟩
theorem CFr.kp0 {a b:Nat} {w w':World} {p f:Nat} {T:CT} {sg:List Nat} {ls:List Int} {ts:List ByteArray} {At Ab As:Option Addr} {ct cb cs n N m:Nat} (h:CFr a b w p f T sg ls ts At Ab As ct cb cs n N m) (hk:Kp [] w w'):CFr a b w' p f T sg ls ts At Ab As ct cb cs n N m:=h.kp hk (by simp)
theorem one_mem {a b r:Nat} (h:r < a ∨ b≤r):∀ g ∈ [r],g < a ∨ b≤g:=fun g hg=>by rw [List.mem_singleton.1 hg];exact h
theorem rfour_ex (n:Nat) (w:World) (hn:n≤2147483647):Calls Tryz.prog 40 #[.int .i64 (n:Int)] w fun e w'=>∃ (A:Option Addr),e=.returned (.slice A 4 4)∧Rd w' w'.heap.size A ((fourI n).map (.int .u8))∧Kp [] w w':=
 (rfour_any n w hn).mono fun _ _ ⟨h1,h2,h3⟩=>⟨_,h1,own_rd h2,h3⟩
def Rof13P (w:World) (ts:List ByteArray) (e:Ending) (w':World):Prop:=Kp [] w w'∧((riseT ts=false∧e=.returned (.tuple #[.pointer none,.int .i64 12])) ∨
 (riseT ts=true∧∃ (r:Nat) (At Ab:Option Addr) (ct cb n m:Nat),e=.returned (.tuple #[.pointer (some ⟨r,0,none⟩),.int .i64 0])∧RsM w' w.heap.size w'.heap.size r ts At Ab ct cb n m (secBytes ts)))
theorem RSu.done {w w4 wr:World} {a b r n ct m cb:Nat} {At Ab:Option Addr} {bs:List Int} {ts:List ByteArray} (h:RSu w4 a b wr r n ct At (.slice Ab m cb) Ab m cb bs) (hw:w.heap.size≤w4.heap.size) (ht:Rd w4 w4.heap.size At (ts.map .string)) (hb:∀ ad,At=some ad→w.heap.size≤ad.block) (hn:ts.length=n):RsM wr w.heap.size wr.heap.size r ts At Ab ct cb n m bs:=by
 have hl:=h.len;obtain ⟨h1,h2,h3,h4,h5,h6,h7,h8⟩:=h;refine ⟨h1,(ht.kp0 h8).bound h8.size,own_rd h2,⟨by omega,h1.lt⟩,hb,fun ad e=>?_,hn,hl,?_⟩
 ·obtain ⟨_,_,he,_,_,_,hA⟩:=own_form h2;injection he with e1 e2 e3
  subst e1;have:=(hA ad e).2.2.1;omega
 ·obtain ⟨_,_,he,hle,_⟩:=own_form h2;injection he with e1 e2 e3
  omega
theorem rd_newS (w:World) (C:Array Value) (e:TypeId) {g:Nat} (hg:g=w.heap.size):Rd (w.alloc (.cells C e)) (w.alloc (.cells C e)).heap.size (some ⟨g,0,none⟩) C.toList:=by
 subst hg;exact (Rd.new w C e (0,0)).bound (by simp)
theorem oc_u8 (l:List Int):∀ u ∈ l.map (Value.int .u8),u.oneCell'=true:=fun u hu=>by
 obtain ⟨x,_,rfl⟩:=List.mem_map.1 hu;rfl
theorem CFr.rows {a b:Nat} {w:World} {p f:Nat} {T:CT} {sg:List Nat} {ls:List Int} {ts:List ByteArray} {At Ab As:Option Addr} {ct cb cs n N m:Nat} (h:CFr a b w p f T sg ls ts At Ab As ct cb cs n N m) :
  ∃ (A1 A2:Addr) (c1 c2 B1:Nat),w.cell? ⟨p,0,none⟩=some (.slice (some A1) sg.length c1)∧w.cell? ⟨p,1,none⟩=some (.slice (some A2) ls.length c2)∧Rd w B1 (some A1) (sg.map fun (x:Nat)=>.int .i64 (x:Int))∧Rd w B1 (some A2) (ls.map (.int .i64)):=by
 obtain ⟨lo,hi,lo2,hi2,_,_,_,_,⟨_,_,_,A1,A2,A3,c1,c2,c3,l,h4,_,_,_,_,_,_,r1,r2,_⟩,_⟩:=h;exact ⟨A1,A2,c1,c2,hi,by rw [h4.cell];rfl,by rw [h4.cell];rfl,r1,r2⟩
theorem CFr.front {a b:Nat} {w:World} {p f:Nat} {T:CT} {sg:List Nat} {ls:List Int} {ts:List ByteArray} {At Ab As:Option Addr} {ct cb cs n N m:Nat} (h:CFr a b w p f T sg ls ts At Ab As ct cb cs n N m) :
  ∃ B1:Nat,w.cell? ⟨f,1,none⟩=some (.slice Ab N cb)∧w.cell? ⟨f,2,none⟩=some (.slice As m cs)∧Rd w B1 Ab ((frontB T ts).map .bool)∧Rd w B1 As (natV (startsN T ts))∧(frontB T ts).length=N∧(startsN T ts).length=m∧N≤cb:=by
 obtain ⟨lo,hi,lo2,hi2,_,_,_,_,_,hf⟩:=h;obtain ⟨_,q1,q2⟩:=hf.cells;exact ⟨hi2,q1,q2,hf.rb,hf.rs,hf.nb,hf.ns,hf.hcb⟩
theorem starts_ofE {T:CT} {ts:List ByteArray} (hn:ts.length≤30000) (hb:(frontB T ts).length≤9000000):PK.ofE (PK.intsN (startsN T ts))=0∧wdS T ts≤24∧(∀ x ∈ startsN T ts,x < 2 ^ wdS T ts)∧PK.errRow (wdS T ts) (startsN T ts).length=0∧PK.Small (PK.intsN (startsN T ts))∧PK.okN (PK.intsN (startsN T ts)):=by
 have hsm:∀ x ∈ PK.intsN (startsN T ts),0≤x∧x < 16777216:=fun x hx=>by
  obtain ⟨y,hy,rfl⟩:=List.mem_map.1 hx;unfold startsN at hy;obtain ⟨k,_,rfl⟩:=List.mem_map.1 hy;have:=frontB_mono T ts (8 * k)

  omega
 have hl:(PK.intsN (startsN T ts)).length≤4000:=by
  unfold PK.intsN;rw [List.length_map,starts_len];omega
 have h1:=ofE_small hl hsm;have h2:=wideF_le24 _ 1 (by omega) hsm
 have hok:PK.okN (PK.intsN (startsN T ts)):=fun x hx=>by
  have h2:=hsm x hx;have h3:=PK.dgt_le (x:=x.toNat) (k:=24) (by omega) (by omega) (by show x.toNat < 16777216;omega);exact ⟨h2.1,by omega⟩
 have hwd:PK.wideF 1 (PK.intsN (startsN T ts))=wdS T ts:=rfl;refine ⟨h1,by rw [← hwd];exact h2,fun x hx=>?_,?_,fun x hx=>by have:=hsm x hx;omega,hok⟩
 ·have h3:=(PK.wideF_ge (l:=PK.intsN (startsN T ts)) 1).2 (x:Int) (List.mem_map.2 ⟨x,hx,rfl⟩);rw [hwd,Int.toNat_natCast] at h3;have h4:=hsm (x:Int) (List.mem_map.2 ⟨x,hx,rfl⟩);exact Nat.lt_of_lt_of_le (PK.dgt_lt (show x < 2 ^ 64 from Nat.lt_of_lt_of_le (show x < 16777216 by omega) (by decide))) (Nat.pow_le_pow_right (by omega) h3)
 ·have h3:PK.newE (wdS T ts) (PK.intsN (startsN T ts))=0:=by
   have h4:=h1;unfold PK.ofE at h4;rw [if_pos hok] at h4;exact h4
  unfold PK.newE at h3
  split at h3
  ·have e:(PK.intsN (startsN T ts)).length=(startsN T ts).length:=by unfold PK.intsN;rw [List.length_map]
   rw [e] at h3;exact h3
  ·cases h3
def cells257:Array Value:=(List.replicate 257 (Value.bool false)).toArray
theorem run_make257 (w:World):(Instr.makeSlice 80 (.int .i64 257) (.int .i64 257)).run Tryz.prog w=.ok (.slice (some ⟨w.heap.size,0,none⟩) 257 257) (w.alloc (.cells cells257 4)):=run_make_bools 257 (by omega) w
theorem rof13_any (A:Option Addr) (n c B:Nat) (ts:List ByteArray) (w:World) (hx:Rd w B A (ts.map .string)) (hn:ts.length=n) (hz:∀ s ∈ ts,s.size≤30000) (hb:(symL (piecesL ts n)).length≤29000) (hB:B≤w.heap.size) :
  Calls Tryz.prog 16 #[.slice A n c] w (Rof13P w ts):=by
 obtain ⟨i0,hi0,hz0,hz1,hz2⟩:=info_parts Tryz.info_byS;obtain ⟨is,his,hs0,hs1,hs2⟩:=info_parts Tryz.info_strS;have HSZ:=Lib.hid hz
 have hn3:n≤29000:=by
  have h1:=symL_ge (piecesL ts n);rw [piecesL_len] at h1;omega
 have HPS:=Lib.hid hb;have HX:=Lib.hid hx;have HN:=Lib.hid hn;have HB:=Lib.hid hB;clear hx hn hz hb hB
 go_enter Tryz.func16,Tryz.ntmps16
 go_wp2_with fail
 go_loopw [4] (fun x wr=>∃ k:Nat,x=.int .i64 (k:Int)∧1≤k∧(k≤n ∨ k=1)∧Hid (∀ i s t,i+1 < k→ts[i]? = some s→ts[i+1]? = some t→lexN (txt s) (txt t)=true)∧Hid (Kp [] w wr)) (fun x _=>n - (intOf x).toNat)
 case atStart=>exact ⟨1,rfl,by omega,.inr rfl,Lib.hid (fun i s t h=>by omega),Lib.hid (Kp.refl _ _)⟩
 case round =>
  obtain ⟨k,rfl,hk1,hk,HA,HKR⟩:=hrel;by_cases hlt:k < n
  ·obtain ⟨j,rfl⟩:∃ j,k=j+1:=⟨k - 1,by omega⟩;obtain ⟨t,ad,ht,rfl,_,hct⟩:=(HX.out.kp0 HKR.out).str (k:=j+1) (by rw [HN.out];exact hlt);obtain ⟨s,ad',hs,e',_,hcs⟩:=(HX.out.kp0 HKR.out).str (k:=j) (by rw [HN.out];omega);injection e' with e'
   subst e';have hctp:wr.cell? ⟨ad.block,ad.off+(j+1),none⟩=some (.string t):=hct;have hb0:(0:Int)≤(j:Int):=by omega
   have hb1:(j:Int) < (n:Int):=by omega
   have hb2:(j:Int)+1 < (n:Int):=by omega
   have HLT:=Lib.hid (less_txt s t);have HS:=Lib.hid hs;have HT:=Lib.hid ht;clear hct hs ht
   cases hxx:lexN (txt s) (txt t) with
   | true =>
     have hl:Op.bytesLess s.toList t.toList=true:=by rw [HLT.out,hxx]
     have HA2:=Lib.hid (show ∀ i s t,i+1 < j+1+1→ts[i]? = some s→ts[i+1]? = some t→lexN (txt s) (txt t)=true from fun i s' t' hi h1 h2=>by
      by_cases hij:i=j
      ·subst hij;rw [HS.out] at h1;rw [HT.out] at h2;injection h1 with h1
       injection h2 with h2
       subst h1 h2;exact hxx
      ·exact HA.out i s' t' (by omega) h1 h2)
     clear hxx;go_wp2_with fail
     go_quiet (fail)
     go_wp2_with fail;exact ⟨⟨j+1+1,by go_num,by omega,.inl (by omega),HA2,Lib.hid (HKR.out.drewN _)⟩,by simp [intOf];omega⟩
   | false =>
     have hl:Op.bytesLess s.toList t.toList=false:=by rw [HLT.out,hxx]
     have HE:=Lib.hid (show riseT ts=false from by
      cases h:riseT ts with
      | false=>rfl
      | true=>rw [(riseT_iff ts).1 h j s t HS.out HT.out] at hxx;cases hxx)
     clear hxx;go_wp2_with fail
     go_quiet (fail)
     go_wp2_with fail;go_ret2;exact ⟨HKR.out.drewN _,.inl ⟨HE.out,rfl⟩⟩
  ·have HRI:=Lib.hid (show riseT ts=true from (riseT_iff ts).2 (fun i s t h1 h2=>HA.out i s t (by have h3:=(List.getElem?_eq_some_iff.1 h2).1;rw [HN.out] at h3;omega) h1 h2));have HK:=HKR;obtain ⟨w1,hw1⟩:∃ w1,w1=wr:=⟨_,rfl⟩;rw [← hw1] at HK ⊢;clear HA hw1 HKR;replace HX:=Lib.hid (HX.out.kp0 HK.out);have HXL:=Lib.hid (show (ts.map Value.string:List Value).length=n * 1 by rw [List.length_map,HN.out,Nat.mul_one]);have hnm:decide ((65536:Int) < (n:Int))=false:=by simp;omega
   go_wp2_with first
    | (at_builtin;refine wpList_append_rd rfl (.tmp 38) (.tmp 39) 22 rfl w1.heap.size 9 is (.string ⟨#[]⟩) 1 16 Tryz.underlying22 his hs0 hs1 hs2 rfl (by decide) (.slice (some ⟨w1.heap.size,0,none⟩) 0 0) 0 [] rfl (own_nilS w1 w1.heap.size _ 1 (Nat.le_refl _)) _ _ n c (ts.map .string) rfl HXL.out (HX.out.kp0 ((Kp.refl [] _).alloc _)) (ocS _) (by unfold maxLen;omega) (by omega) (by simp) ?_;intro v4 w4 hown4 hgrow4 hat4
       rw [Nat.zero_add,List.nil_append] at hown4;obtain ⟨At,ct,rfl,hle4,_,hA4,hB4⟩:=own_form hown4;have hk4:Kp [] w1 w4:=((Kp.refl [] w1).alloc _).grown hgrow4 (fun x hx=>.inr (by simp [Value.ownBlock] at hx;omega));have HO4:=Lib.hid (own_rd hown4);have HB4:=Lib.hid (show ∀ ad,At=some ad→w.heap.size≤ad.block from fun ad e=>Nat.le_trans HK.out.size (hB4 ad e).2.2.1);have HK4:=Lib.hid (HK.out.trans hk4);replace HX:=Lib.hid (HX.out.kp0 hk4)
       clear hown4 hgrow4 hat4 hk4 hle4 hA4 hB4)
   refine (rfour_any n w4 (by omega)).mono ?_;rintro e w5 ⟨rfl,hown5,hk5⟩;obtain ⟨b4,hb4⟩:∃ b4,b4=w4.heap.size:=⟨_,rfl⟩;have HBE4:=Lib.hid hb4;have HOW5:=Lib.hid hown5;have HK5:=Lib.hid hk5;rw [← hb4];clear hown5 hk5 hb4
   go_upto_region 9 with (fail)
   obtain ⟨r,hr⟩:∃ r,r=w5.heap.size:=⟨_,rfl⟩;obtain ⟨w6,hw6⟩:∃ w6,w6=w5.alloc (.cells #[.slice At n ct,.slice (some ⟨b4,0,none⟩) 4 4] 55):=⟨_,rfl⟩;rw [← hr,← hw6];have hk6:Kp [] w5 w6:=by rw [hw6];exact (Kp.refl [] w5).alloc _
   have HR:=Lib.hid (show RSu w4 0 0 w6 r n ct At (.slice (some ⟨b4,0,none⟩) 4 4) (some ⟨b4,0,none⟩) 4 4 (fourI n) from by
    have h1:w6.ownsRow w4.heap.size 5 1 (.slice (some ⟨b4,0,none⟩) 4 4) 4 ((fourI n).map (.int .u8)):=by rw [HBE4.out];exact own_kp0 HOW5.out hk6
    have h2:b4 < w5.heap.size:=by
     have h3:=(own_ge HOW5.out (g:=w4.heap.size) rfl).2;rw [HBE4.out];exact h3
    exact ⟨by rw [hw6,hr];exact Blk.new w5 55 [.slice At n ct,.slice (some ⟨b4,0,none⟩) 4 4],h1,fun hm=>by have h3:=mem_ownL.1 hm;have h4:=ownBlock_some h3;omega,by rw [hr];exact HK5.out.size,Nat.zero_le _,fun g _=>.inr (Nat.zero_le _),.inr (Nat.zero_le _),HK5.out.trans hk6⟩)
   have HK6:=Lib.hid (HK4.out.trans (HK5.out.trans hk6));replace HX:=Lib.hid (HX.out.kp0 (HK5.out.trans hk6));have HW4:=Lib.hid (show w.heap.size≤w4.heap.size from HK4.out.size);clear hr hw6 hk6 HOW5 HK5 HBE4;by_cases hn0:n=0
   ·subst hn0;have HNIL:=Lib.hid (show ts=[] from List.length_eq_zero_iff.1 HN.out);go_wp2_with fail;go_ret2;exact ⟨HK6.out,.inr ⟨HRI.out,r,At,_,ct,_,0,_,rfl,by rw [show secBytes ts=fourI 0 from by rw [HNIL.out,secBytes_nil]];exact HR.out.done HW4.out HO4.out HB4.out HN.out⟩⟩
   have hn1:1≤n:=by omega
   have hn0':((n:Int) == 0)=false:=by simp;omega
   go_wp2_with fail;refine (rpieces_any A n c B ts w6 HX.out HN.out (by omega) (fun s hs=>by have:=HSZ.out s hs;omega)).mono ?_;rintro e w7 ⟨Ao,co,rfl,hown7,hk7⟩;have HP:=Lib.hid (own_rd hown7);have HPL:=Lib.hid (piecesL_len ts n);have HK67:=Lib.hid hk7;replace HX:=Lib.hid (HX.out.kp0 hk7);clear hown7 hk7;go_wp2_with fail;refine (rof_any Ao n co _ (piecesL ts n) w7 HP.out HPL.out hn1 (by have:=HPS.out;omega) (Nat.le_refl _)).mono ?_;rintro e w8 ⟨p,rfl,hcode,hk8⟩;obtain ⟨lo,hlo⟩:∃ lo,lo=w7.heap.size:=⟨_,rfl⟩;obtain ⟨hi,hhi⟩:∃ hi,hi=w8.heap.size:=⟨_,rfl⟩;rw [← hlo,← hhi,toNat_smO] at hcode;obtain ⟨L,hL⟩:∃ L,L=lensL (wtO (symL (piecesL ts n))):=⟨_,rfl⟩;obtain ⟨T,hT⟩:∃ T,T=treeC (smO (symL (piecesL ts n))) L:=⟨_,rfl⟩;obtain ⟨sg,hsg⟩:∃ sg,sg=sgK (symL (piecesL ts n)) 257:=⟨_,rfl⟩;rw [← hL] at hcode;rw [← hT,← hsg] at hcode
   have HENC:=Lib.hid (show ∀ s ∈ ts,∃ r,encT T s=some r from fun s hs=>enc_all hcode.1 (fun x hx=>by
    have hx2:=pieces_cover ts hs x hx;rw [HN.out] at hx2;rw [hsg]
    exact mem_sgK hx2 (symL_lt _ x hx2)))
   have HTQ:=Lib.hid (show L=lensL (wtO (symL (piecesL ts n)))∧sg=sgK (symL (piecesL ts n)) 257∧T=treeC (smO (symL (piecesL ts n))) (lensL (wtO (symL (piecesL ts n)))) from ⟨hL,hsg,by rw [hT,hL]⟩)
   have HFJ:=Lib.hid (show ∀ j,(frontB T (ts.take j)).length≤9000000 from fun j=>by
    have h1:=frontB_len2 hcode.1 ts (fun s hs=>by have:=HSZ.out s hs;omega) n (by rw [HN.out];exact Nat.le_refl _);have h2:=frontB_mono T ts j;rw [List.take_of_length_le (by rw [HN.out];exact Nat.le_refl _)] at h1;have:=HPS.out
    omega)
   have HCD:=Lib.hid hcode.1;have HC:=Lib.hid hcode;have HK68:=Lib.hid (HK67.out.trans hk8);have HLO:=Lib.hid (show w6.heap.size≤lo∧hi≤w8.heap.size from ⟨by rw [hlo];exact HK67.out.size,by omega⟩);replace HX:=Lib.hid (HX.out.kp0 hk8);clear hcode hk8 hT hsg hL hlo hhi HP HPL HPS HK67;go_wp2_with fail;refine (rfof_any lo hi p n c B A ts T sg L w8 HC.out HX.out HN.out (by omega) HSZ.out HFJ.out).mono ?_;rintro e w9 ⟨hk9,⟨hr,_⟩ | ⟨_,⟨s,hs,hno⟩,_⟩ | ⟨_,_,f,At2,Ab2,As2,ct2,cb2,cs2,n2,N2,m2,rfl,hrf⟩⟩
   ·rw [HRI.out] at hr
    cases hr
   ·obtain ⟨r,hr⟩:=HENC.out s hs;rw [hr] at hno
    cases hno
   obtain ⟨a,ha⟩:∃ a,a=w6.heap.size:=⟨_,rfl⟩;obtain ⟨b,hb⟩:∃ b,b=w9.heap.size:=⟨_,rfl⟩;have HCF:=Lib.hid (show CFr a b w9 p f T sg L ts At2 Ab2 As2 ct2 cb2 cs2 n2 N2 m2 from ⟨lo,hi,w8.heap.size,w9.heap.size,by rw [ha];exact HLO.out.1,by rw [hb];exact Nat.le_trans HLO.out.2 hk9.size,by rw [ha];exact HK68.out.size,by rw [hb];exact Nat.le_refl _,HC.out.kp0 hk9,hrf⟩);replace HR:=Lib.hid (HR.out.iv (a':=a) (b':=b) (by rw [ha];exact Nat.le_refl _) (HK68.out.trans hk9) (by rw [hb];exact Nat.le_refl _));have HK9:=Lib.hid (HK6.out.trans (HK68.out.trans hk9));have HBF:=Lib.hid (show (frontB T ts).length≤9000000 from by have h1:=HFJ.out n;rwa [List.take_of_length_le (by rw [HN.out];exact Nat.le_refl _)] at h1);have HBB:=Lib.hid hb;obtain ⟨bs,hbs⟩:∃ bs,bs=fourI n:=⟨_,rfl⟩;rw [← hbs] at HR;have HBS:=Lib.hid hbs;have hsgn:sg.length≤257:=codeT_len HCD.out;have HSG257:=Lib.hid (show ∀ s ∈ sg,s < 257 from fun s hs=>by have:=HCD.out.2.2.2.1 s hs;omega);obtain ⟨ns,hns⟩:∃ ns,sg.length=ns:=⟨_,rfl⟩;have HNS:=Lib.hid hns;rw [hns] at hsgn;obtain ⟨nl,hnl⟩:∃ nl,L.length=nl:=⟨_,rfl⟩;have HNL:=Lib.hid hnl
   have hnl7:nl≤257:=by
    obtain ⟨lo,hi,lo2,hi2,_,_,_,_,hrc,_⟩:=HCF.out;obtain ⟨n9,_,_,_,_,_,_,_,hq1,hq2,_⟩:=hrc.cells;omega
   clear hk9 hrf ha hb hbs HC HENC HFJ HLO HK68 HX hns hnl HK6;have hmk:=run_make257;go_wp2_with fail;clear hmk;obtain ⟨g,hg⟩:∃ g,g=w9.heap.size:=⟨_,rfl⟩;obtain ⟨wa,hwa⟩:∃ wa,wa=w9.alloc (.cells cells257 4):=⟨_,rfl⟩;rw [← hwa,← hg];have hka:Kp [] w9 wa:=by rw [hwa];exact (Kp.refl [] w9).alloc _
   have HGO:=Lib.hid (show (∀ x ∈ [g],x ∉ ownL (.slice (some ⟨b4,0,none⟩) 4 4)∧x ≠ r∧w4.heap.size≤x) from fun x hx=>by
    rw [List.mem_singleton.1 hx,hg];have h1:=HR.out
    exact ⟨fun hm=>by have:=(own_ge h1.2.1 (mem_ownL.1 hm)).2;omega,by have:=h1.1.lt;omega,h1.2.2.2.2.2.2.2.size⟩)
   have HG0:=Lib.hid (show Blk wa g 4 ((setL (List.replicate 257 false) true ((sg.take 0).map fun (x:Nat)=>(x:Int))).map .bool) from by
    rw [List.take_zero,List.map_nil,hwa,hg]
    show Blk _ _ _ ((List.replicate 257 false).map Value.bool)
    rw [List.map_replicate]
    exact Blk.new w9 4 (List.replicate 257 (.bool false)))
   have HGB:=Lib.hid (show ∀ x ∈ [g],x < a ∨ b≤x from fun x hx=>by rw [List.mem_singleton.1 hx,HBB.out,hg];exact .inr (Nat.le_refl _));replace HCF:=Lib.hid (HCF.out.kp0 hka);replace HR:=Lib.hid (HR.out.kp0 hka);have HKA:=Lib.hid (HK9.out.trans hka);have HGW:=Lib.hid (show w.heap.size≤g from by rw [hg];exact HK9.out.size);clear hwa hka hg HK9
   go_loopw [11] (fun x wr=>∃ k:Nat,x=.int .i64 (k:Int)∧k≤ns∧Hid (Blk wr g 4 ((setL (List.replicate 257 false) true ((sg.take k).map fun (x:Nat)=>(x:Int))).map .bool))∧Hid (Kp [g] wa wr)) (fun x _=>ns - (intOf x).toNat)
   case atStart=>exact ⟨0,rfl,by omega,HG0,Lib.hid (Kp.refl _ _)⟩
   case round =>
    clear HG0;obtain ⟨k,rfl,hk,HG,HKR⟩:=hrel;obtain ⟨A1,A2,c1,c2,B1,hc0,_,hr1,_⟩:=(HCF.out.kp HKR.out HGB.out).rows;rw [HNS.out] at hc0;by_cases hlt:k < ns
    ·obtain ⟨s,ad,hs,e',_,hcs⟩:=natRr hr1 (k:=k) (by rw [HNS.out];exact hlt);injection e' with e'
     subst e';have hs7:=HSG257.out s (List.mem_of_getElem? hs);have hb0:(0:Int)≤(k:Int):=by omega
     have hb1:(k:Int) < (ns:Int):=by omega
     have hs0:(0:Int)≤(s:Int):=by omega
     have hs1:(s:Int) < 257:=by omega
     have hgc:=HG.out.free s;have hgl:((setL (List.replicate 257 false) true ((sg.take k).map fun (x:Nat)=>(x:Int))).map Value.bool).length=257:=by rw [List.length_map,setL_len,List.length_replicate]
     obtain ⟨old,hold⟩:∃ old,wr.cell? ⟨g,s,none⟩=some old:=⟨_,by rw [HG.out.cell];exact List.getElem?_eq_getElem (by rw [hgl];exact hs7)⟩;have HS:=Lib.hid hs;clear hr1 hs hgl;go_wp2_with fail;refine ⟨⟨k+1,by go_num,by omega,Lib.hid ?_,Lib.hid (HKR.out.setCell (.inl (by simp)) _)⟩,by simp [intOf];omega⟩;have h9:=HG.out.set_ s (.bool true);rw [← List.map_set] at h9;rw [List.take_add_one,HS.out,List.map_append]
     show Blk _ _ _ ((setL _ true (_ ++ [(s:Int)])).map Value.bool)
     rw [setL_snoc,Int.toNat_natCast];exact h9
    ·obtain rfl:k=ns:=by omega
     obtain ⟨sv,hsv⟩:∃ sv,sv=setL (List.replicate 257 false) true (sg.map fun (x:Nat)=>(x:Int)):=⟨_,rfl⟩;have HSV:=Lib.hid hsv
     have HG1:=Lib.hid (show Blk wr g 4 (sv.map .bool) from by
      have h1:=HG.out;rw [List.take_of_length_le (by rw [HNS.out];exact Nat.le_refl _),← hsv] at h1
      exact h1)
     have HSL:=Lib.hid (show sv.length=257 from by rw [hsv,setL_len,List.length_replicate]);replace HCF:=Lib.hid (HCF.out.kp HKR.out HGB.out);replace HR:=Lib.hid (HR.out.kp HKR.out HGO.out);replace HKA:=Lib.hid (HKA.out.trans' HKR.out (fun x hx=>.inr (by rw [List.mem_singleton.1 hx];exact HGW.out)));clear hsv HG HKR hr1 HGO;go_wp2_with fail;refine (rbof_any (some ⟨g,0,none⟩) 257 257 _ sv wr (HG1.out.rd HG1.out.lt) HSL.out (by omega)).mono ?_;rintro e w10 ⟨Sv,pv,rfl,hv10,hS10,hk10⟩;have HV:=Lib.hid hv10
     have HVD:=Lib.hid (show ∀ x ∈ Sv,x ∉ ownL (.slice (some ⟨b4,0,none⟩) 4 4) from fun x hx hm=>by
      have h1:=hS10 x hx;have h2:=(own_ge HR.out.2.1 (mem_ownL.1 hm)).2
      omega)
     replace HCF:=Lib.hid (HCF.out.kp0 hk10);replace HR:=Lib.hid (HR.out.kp0 hk10);replace HKA:=Lib.hid (HKA.out.trans hk10);clear hv10 hS10 hk10 HG1 HGB HGW;have hc1:=HR.out.cell.1;have hf1:=HR.out.cell.2;have hr4:4≤1000000:=by omega
     go_upto_region 21 with (fail)
     go_cut [5] (fun s5 wx=>s5=.pointer (some ⟨r,0,none⟩)∧∃ (A7:Option Addr) (c7:Nat),Hid (RSu w4 a b wx r n ct At (.slice A7 (4+33) c7) A7 (4+33) c7 (bs ++ bytesN (bitN sv) 33))∧Hid (CFr a b wx p f T sg L ts At2 Ab2 As2 ct2 cb2 cs2 n2 N2 m2)∧Hid (Kp [] w wx))
     case first =>
      go_region_law
       (first
        | (go_simp
           go_at_call 45
           refine (rbbytes_any Sv pv sv _ (HV.out.kp0 (show Kp [] w10 _ from by first | exact (Kp.refl [] w10) | exact (Kp.refl [] w10).drew | exact (Kp.refl [] w10).drew.drew | exact (Kp.refl [] w10).drew.drew.drew | exact (Kp.refl [] w10).drew.drew.drew.drew)) (by rw [HSL.out];omega)).mono ?_;rintro e w12 ⟨g12,m12,hm12,rfl,hb12,hg12,hk12⟩;have hm33:m12=33:=by rw [hm12,HSL.out]
           subst hm33;have HK12:Hid (Kp [] w10 w12):=Lib.hid ((show Kp [] w10 _ from by first | exact (Kp.refl [] w10) | exact (Kp.refl [] w10).drew | exact (Kp.refl [] w10).drew.drew | exact (Kp.refl [] w10).drew.drew.drew | exact (Kp.refl [] w10).drew.drew.drew.drew).trans hk12);have HR12:Hid (Rd w12 w12.heap.size (some ⟨g12,0,none⟩) ((bytesN (bitN sv) 33).map (.int .u8))):=Lib.hid (hb12.rd hb12.lt);have hc12:w12.cell? ⟨r,1,none⟩=some (.slice (some ⟨b4,0,none⟩) 4 4):=HK12.out.cell hc1 (by simp)
           clear hm12 hb12 hg12 hk12)
        | (refine step_append_rd rfl (.tmp 92) (.tmp 94) 41 rfl w4.heap.size 5 i0 (.int .u8 0) 1 1 Tryz.underlying41 hi0 hz0 hz1 hz2 rfl (by decide) (.slice (some ⟨b4,0,none⟩) 4 4) (4) _ (by rfl) (own_kp0 HR.out.2.1 (show Kp [] w10 _ from HK12.out.trans (show Kp [] w12 _ from by first | exact (Kp.refl [] w12) | exact (Kp.refl [] w12).drew | exact (Kp.refl [] w12).drew.drew | exact (Kp.refl [] w12).drew.drew.drew | exact (Kp.refl [] w12).drew.drew.drew.drew))) _ _ 33 _ ((bytesN (bitN sv) 33).map (.int .u8)) (by rfl) (by rw [List.length_map,bytesN_len]) (HR12.out.kp0 (show Kp [] w12 _ from by first | exact (Kp.refl [] w12) | exact (Kp.refl [] w12).drew | exact (Kp.refl [] w12).drew.drew | exact (Kp.refl [] w12).drew.drew.drew | exact (Kp.refl [] w12).drew.drew.drew.drew)) (oc_u8 (bytesN (bitN sv) 33)) (by unfold maxLen;omega) (by omega) (HR.out.2.2.2.2.2.2.2.trans (show Kp [] w10 _ from HK12.out.trans (show Kp [] w12 _ from by first | exact (Kp.refl [] w12) | exact (Kp.refl [] w12).drew | exact (Kp.refl [] w12).drew.drew | exact (Kp.refl [] w12).drew.drew.drew | exact (Kp.refl [] w12).drew.drew.drew.drew))).size ?_
           intro v13 w13 hown13 hgrow13 hat13;obtain ⟨A13,c13,rfl,hr13,hk13⟩:=HR.out.app (ys:=bytesN (bitN sv) 33) rfl (show Kp [] w10 _ from HK12.out.trans (show Kp [] w12 _ from by first | exact (Kp.refl [] w12) | exact (Kp.refl [] w12).drew | exact (Kp.refl [] w12).drew.drew | exact (Kp.refl [] w12).drew.drew.drew | exact (Kp.refl [] w12).drew.drew.drew.drew)) hown13 hgrow13 hat13;clear hown13 hgrow13 hat13;have HR13:Hid (RSu w4 a b w13 r n ct At (.slice (some ⟨b4,0,none⟩) 4 4) A13 (4+33) c13 (bs ++ bytesN (bitN sv) 33)):=Lib.hid hr13;have HK13:Hid (Kp (ownL (.slice (some ⟨b4,0,none⟩) 4 4)) w10 w13):=Lib.hid hk13;have hc13:w13.cell? ⟨r,1,none⟩=some (.slice (some ⟨b4,0,none⟩) 4 4):=hr13.cell.1;have hf13:w13.frozen? ⟨r,1,none⟩=false:=hr13.cell.2
           clear hr13 hk13))

      all_goals
       have HS:=HR13.out.set;have HCF2:=Lib.hid ((HCF.out.kp HK13.out HR.out.2.2.2.2.2.1).kp HS.2 (one_mem HR13.out.2.2.2.2.2.2.1));have HKX:=Lib.hid ((HKA.out.trans' HK13.out (fun x hx=>.inr (Nat.le_trans HW4.out (own_ge HR.out.2.1 (mem_ownL.1 hx)).1))).trans' HS.2 (fun x hx=>.inr (by rw [List.mem_singleton.1 hx];exact Nat.le_trans HW4.out HR13.out.2.2.2.1)));have HRS:=Lib.hid HS.1;clear HS;go_wp2_with fail
       go_meet
       exact ⟨rfl,_,_,HRS,HCF2,HKX⟩
     case rest =>
      obtain ⟨rfl,A7,c7,HR7,HCF7,HK7⟩:=hcut;clear HR HCF HKA HV HVD hc1 hf1 hr4;obtain ⟨bs1,hbs1⟩:∃ bs1,bs1=bs ++ bytesN (bitN sv) 33:=⟨_,rfl⟩;rw [← hbs1] at HR7;have HBS1:=Lib.hid hbs1;obtain ⟨M1,hM1⟩:∃ M1,M1=4+33:=⟨_,rfl⟩;rw [← hM1] at HR7;have hM1b:M1≤37:=by omega
      clear hbs1 hM1;go_wp2_with fail
      go_loopw [14] (fun x wr=>∃ (k M c7:Nat) (A7:Option Addr) (bk:List Int),x=.int .i64 (k:Int)∧k≤nl∧M≤100+k∧Hid (bk=bs1 ++ (L.take k).map (· % 256))∧Hid (RSu w4 a b wr r n ct At (.slice A7 M c7) A7 M c7 bk)∧Hid (CFr a b wr p f T sg L ts At2 Ab2 As2 ct2 cb2 cs2 n2 N2 m2)∧Hid (Kp [] w wr)) (fun x _=>nl - (intOf x).toNat)
      case atStart=>exact ⟨0,M1,c7,A7,bs1,rfl,by omega,by omega,Lib.hid (by simp),HR7,HCF7,HK7⟩
      case round =>
       clear HR7 HCF7 HK7;obtain ⟨k,M,c7,A7,bk,rfl,hk,hMb,HBK,HR,HCF,HK⟩:=hrel;by_cases hlt:k < nl
       ·obtain ⟨A1,A2,c1,c2,B1,_,hc0,_,hr2⟩:=HCF.out.rows;rw [HNL.out] at hc0;obtain ⟨y,hy⟩:∃ y,L[k]? = some y:=⟨_,List.getElem?_eq_getElem (by rw [HNL.out];exact hlt)⟩;obtain ⟨ad,e',_,hcy⟩:=hr2.at_ (i:=k) (u:=.int .i64 y) (by rw [List.getElem?_map,hy];rfl);injection e' with e'
        subst e';have hb0:(0:Int)≤(k:Int):=by omega
        have hb1:(k:Int) < (nl:Int):=by omega
        have hc1:=HR.out.cell.1;have hf1:=HR.out.cell.2;obtain ⟨z,hzw⟩:∃ z,IntKind.wrap .u8 y=z:=⟨_,rfl⟩;have hzy:z=y % 256:=by rw [← hzw];simp [IntKind.wrap,IntKind.signed,IntKind.bits]
        have HBK2:=Lib.hid (show bk ++ [z]=bs1 ++ (L.take (k+1)).map (· % 256) from by rw [hzy,List.take_add_one,hy,HBK.out,List.map_append,List.append_assoc];rfl);have hc1a:(wr.alloc (.cells #[.int .u8 z] 5)).cell? ⟨r,1,none⟩=some (.slice A7 M c7):=((Kp.refl [] wr).alloc _).cell hc1 (by simp);clear hr2 hy hzy;go_wp2_with fail
        go_region_law
         (refine step_append_rd rfl (.tmp 111) (.tmp 120) 41 rfl w4.heap.size 5 i0 (.int .u8 0) 1 1 Tryz.underlying41 hi0 hz0 hz1 hz2 rfl (by decide) (.slice A7 M c7) (M) _ (by rfl) (own_kp0 HR.out.2.1 (show Kp [] wr _ from by first | exact (Kp.refl [] wr).alloc _ | exact (Kp.refl [] wr).drew.alloc _ | exact ((Kp.refl [] wr).alloc _).drew | exact ((Kp.refl [] wr).drew.alloc _).drew | exact (Kp.refl [] wr).drew.drew.alloc _ | exact ((Kp.refl [] wr).alloc _).drew.drew | exact ((Kp.refl [] wr).drew.drew.alloc _).drew | exact ((Kp.refl [] wr).drew.alloc _).drew.drew)) _ _ 1 1 [.int .u8 (z)] (by rfl) (by rfl) (by first | exact rd_newS _ #[.int .u8 (z)] 5 rfl | exact (rd_newS _ #[.int .u8 (z)] 5 rfl).kp0 (Kp.refl _ _).drew | exact (rd_newS _ #[.int .u8 (z)] 5 rfl).kp0 (Kp.refl _ _).drew.drew) (oc_u8 ([z])) (by unfold maxLen;omega) (by omega) (HR.out.2.2.2.2.2.2.2.trans (show Kp [] wr _ from by first | exact (Kp.refl [] wr).alloc _ | exact (Kp.refl [] wr).drew.alloc _ | exact ((Kp.refl [] wr).alloc _).drew | exact ((Kp.refl [] wr).drew.alloc _).drew | exact (Kp.refl [] wr).drew.drew.alloc _ | exact ((Kp.refl [] wr).alloc _).drew.drew | exact ((Kp.refl [] wr).drew.drew.alloc _).drew | exact ((Kp.refl [] wr).drew.alloc _).drew.drew)).size ?_
          intro v13 w13 hown13 hgrow13 hat13;obtain ⟨A13,c13,rfl,hr13,hk13⟩:=HR.out.app (ys:=[z]) rfl (show Kp [] wr _ from by first | exact (Kp.refl [] wr).alloc _ | exact (Kp.refl [] wr).drew.alloc _ | exact ((Kp.refl [] wr).alloc _).drew | exact ((Kp.refl [] wr).drew.alloc _).drew | exact (Kp.refl [] wr).drew.drew.alloc _ | exact ((Kp.refl [] wr).alloc _).drew.drew | exact ((Kp.refl [] wr).drew.drew.alloc _).drew | exact ((Kp.refl [] wr).drew.alloc _).drew.drew) hown13 hgrow13 hat13;clear hown13 hgrow13 hat13;have HR13:Hid (RSu w4 a b w13 r n ct At (.slice A7 M c7) A13 (M+1) c13 (bk ++ [z])):=Lib.hid hr13;have HK13:Hid (Kp (ownL (.slice A7 M c7)) wr w13):=Lib.hid hk13;have hc13:w13.cell? ⟨r,1,none⟩=some (.slice A7 M c7):=hr13.cell.1;have hf13:w13.frozen? ⟨r,1,none⟩=false:=hr13.cell.2
          clear hr13 hk13)

        all_goals
         have HS:=HR13.out.set;have HCF2:=Lib.hid ((HCF.out.kp HK13.out HR.out.2.2.2.2.2.1).kp HS.2 (one_mem HR13.out.2.2.2.2.2.2.1));have HKX:=Lib.hid ((HK.out.trans' HK13.out (fun x hx=>.inr (Nat.le_trans HW4.out (own_ge HR.out.2.1 (mem_ownL.1 hx)).1))).trans' HS.2 (fun x hx=>.inr (by rw [List.mem_singleton.1 hx];exact Nat.le_trans HW4.out HR13.out.2.2.2.1)));have HRS:=Lib.hid HS.1;clear HS;go_wp2_with fail;exact ⟨⟨k+1,M+1,c13,A13,bk ++ [z],by go_num,by omega,by omega,HBK2,HRS,HCF2,HKX⟩,by simp [intOf];omega⟩
       ·obtain rfl:k=nl:=by omega
        have HBK1:=Lib.hid (show bk=bs1 ++ L.map (· % 256) from by have h1:=HBK.out;rwa [List.take_of_length_le (by rw [HNL.out];exact Nat.le_refl _)] at h1);obtain ⟨B1,hq1,hq2,hrb,hrs,hN2,hm2,hcb2⟩:=HCF.out.front;obtain ⟨A1,A2,c1,c2,_,_,hc0,_,_⟩:=HCF.out.rows;rw [HNL.out] at hc0;have HN2:=Lib.hid hN2;have hN2b:N2≤9000000:=by rw [← hN2];exact HBF.out
        have HRB:=Lib.hid hrb;clear hrb hrs hN2 hm2 HBK;go_wp2_with fail;refine (rbof_any Ab2 N2 cb2 _ (frontB T ts) wr HRB.out HN2.out (by omega)).mono ?_;rintro e w20 ⟨Sv,pv,rfl,hv20,hS20,hk20⟩;have HV:=Lib.hid hv20
        have HVD:=Lib.hid (show ∀ x ∈ Sv,x ∉ ownL (.slice A7 M c7) from fun x hx hm=>by
         have h1:=hS20 x hx;have h2:=(own_ge HR.out.2.1 (mem_ownL.1 hm)).2
         omega)
        replace HCF:=Lib.hid (HCF.out.kp0 hk20);replace HR:=Lib.hid (HR.out.kp0 hk20);replace HK:=Lib.hid (HK.out.trans hk20);clear hv20 hS20 hk20 hq1 hq2 HRB;obtain ⟨B2,hq1,hq2,_,_,_,_,_⟩:=HCF.out.front;have hc1:=HR.out.cell.1;have hf1:=HR.out.cell.2;obtain ⟨m7,hm7⟩:∃ m7,m7=(N2+7) / 8:=⟨_,rfl⟩;have hm7b:m7≤2000000:=by omega
        have HM7:=Lib.hid hm7;obtain ⟨vb,hvb⟩:∃ vb,vb=bytesN (bitN (frontB T ts)) m7:=⟨_,rfl⟩;have HVB:=Lib.hid hvb;clear hm7 hvb
        go_upto_region 27 with (fail)
        go_cut [5] (fun s5 wx=>s5=.pointer (some ⟨r,0,none⟩)∧∃ (A8:Option Addr) (c8:Nat),Hid (RSu w4 a b wx r n ct At (.slice A8 (M+4+m7) c8) A8 (M+4+m7) c8 (bk ++ fourI N2 ++ vb))∧Hid (CFr a b wx p f T sg L ts At2 Ab2 As2 ct2 cb2 cs2 n2 N2 m2)∧Hid (Kp [] w wx))
        case first =>
         go_region_law
          (first
           | (refine step_append_rd rfl (.tmp 136) (.tmp 142) 41 rfl w4.heap.size 5 i0 (.int .u8 0) 1 1 Tryz.underlying41 hi0 hz0 hz1 hz2 rfl (by decide) (.slice A7 M c7) (M) _ (by rfl) (own_kp0 HR.out.2.1 (show Kp [] w20 _ from HK22.out.trans (show Kp [] w22 _ from by first | exact (Kp.refl [] w22) | exact (Kp.refl [] w22).drew | exact (Kp.refl [] w22).drew.drew | exact (Kp.refl [] w22).drew.drew.drew | exact (Kp.refl [] w22).drew.drew.drew.drew))) _ _ 4 _ ((fourI N2).map (.int .u8)) (by rfl) (by rfl) (HR22.out.kp0 (show Kp [] w22 _ from by first | exact (Kp.refl [] w22) | exact (Kp.refl [] w22).drew | exact (Kp.refl [] w22).drew.drew | exact (Kp.refl [] w22).drew.drew.drew | exact (Kp.refl [] w22).drew.drew.drew.drew)) (oc_u8 (fourI N2)) (by unfold maxLen;omega) (by omega) (HR.out.2.2.2.2.2.2.2.trans (show Kp [] w20 _ from HK22.out.trans (show Kp [] w22 _ from by first | exact (Kp.refl [] w22) | exact (Kp.refl [] w22).drew | exact (Kp.refl [] w22).drew.drew | exact (Kp.refl [] w22).drew.drew.drew | exact (Kp.refl [] w22).drew.drew.drew.drew))).size ?_
              intro v23 w23 hown23 hgrow23 hat23;obtain ⟨A23,c23,rfl,hr23,hk23⟩:=HR.out.app (ys:=fourI N2) rfl (show Kp [] w20 _ from HK22.out.trans (show Kp [] w22 _ from by first | exact (Kp.refl [] w22) | exact (Kp.refl [] w22).drew | exact (Kp.refl [] w22).drew.drew | exact (Kp.refl [] w22).drew.drew.drew | exact (Kp.refl [] w22).drew.drew.drew.drew)) hown23 hgrow23 hat23;clear hown23 hgrow23 hat23;have HR23:Hid (RSu w4 a b w23 r n ct At (.slice A7 M c7) A23 (M+4) c23 (bk ++ fourI N2)):=Lib.hid hr23;have HK23:Hid (Kp (ownL (.slice A7 M c7)) w20 w23):=Lib.hid hk23
              clear hr23 hk23)
           | (refine step_append_rd rfl (.tmp 143) (.tmp 145) 41 rfl w4.heap.size 5 i0 (.int .u8 0) 1 1 Tryz.underlying41 hi0 hz0 hz1 hz2 rfl (by decide) (.slice A23 (M+4) c23) (M+4) _ (by rfl) (own_kp0 HR23.out.2.1 (show Kp [] w23 _ from HK24.out.trans (show Kp [] w24 _ from by first | exact (Kp.refl [] w24) | exact (Kp.refl [] w24).drew | exact (Kp.refl [] w24).drew.drew | exact (Kp.refl [] w24).drew.drew.drew | exact (Kp.refl [] w24).drew.drew.drew.drew))) _ _ m7 _ (vb.map (.int .u8)) (by rfl) (by rw [List.length_map,HVB.out,bytesN_len,Nat.mul_one]) (HR24.out.kp0 (show Kp [] w24 _ from by first | exact (Kp.refl [] w24) | exact (Kp.refl [] w24).drew | exact (Kp.refl [] w24).drew.drew | exact (Kp.refl [] w24).drew.drew.drew | exact (Kp.refl [] w24).drew.drew.drew.drew)) (oc_u8 (vb)) (by unfold maxLen;omega) (by omega) (HR23.out.2.2.2.2.2.2.2.trans (show Kp [] w23 _ from HK24.out.trans (show Kp [] w24 _ from by first | exact (Kp.refl [] w24) | exact (Kp.refl [] w24).drew | exact (Kp.refl [] w24).drew.drew | exact (Kp.refl [] w24).drew.drew.drew | exact (Kp.refl [] w24).drew.drew.drew.drew))).size ?_
              intro v25 w25 hown25 hgrow25 hat25;obtain ⟨A25,c25,rfl,hr25,hk25⟩:=HR23.out.app (ys:=vb) rfl (show Kp [] w23 _ from HK24.out.trans (show Kp [] w24 _ from by first | exact (Kp.refl [] w24) | exact (Kp.refl [] w24).drew | exact (Kp.refl [] w24).drew.drew | exact (Kp.refl [] w24).drew.drew.drew | exact (Kp.refl [] w24).drew.drew.drew.drew)) hown25 hgrow25 hat25;clear hown25 hgrow25 hat25;have HR25:Hid (RSu w4 a b w25 r n ct At (.slice A7 M c7) A25 (M+4+m7) c25 (bk ++ fourI N2 ++ vb)):=Lib.hid hr25;have HK25:Hid (Kp (ownL (.slice A23 (M+4) c23)) w23 w25):=Lib.hid hk25;have hc25:w25.cell? ⟨r,1,none⟩=some (.slice A7 M c7):=hr25.cell.1;have hf25:w25.frozen? ⟨r,1,none⟩=false:=hr25.cell.2
              clear hr25 hk25)
           | (go_simp
              go_at_call 40
              refine (rfour_ex N2 _ (by omega)).mono ?_;rintro e w22 ⟨A22,rfl,hr22,hk22⟩;have HK22:Hid (Kp [] w20 w22):=Lib.hid ((show Kp [] w20 _ from by first | exact (Kp.refl [] w20) | exact (Kp.refl [] w20).drew | exact (Kp.refl [] w20).drew.drew | exact (Kp.refl [] w20).drew.drew.drew | exact (Kp.refl [] w20).drew.drew.drew.drew).trans hk22);have HR22:Hid (Rd w22 w22.heap.size A22 ((fourI N2).map (.int .u8))):=Lib.hid hr22;have hc22:w22.cell? ⟨r,1,none⟩=some (.slice A7 M c7):=HK22.out.cell hc1 (by simp)
              clear hr22 hk22)
           | (go_simp
              go_at_call 45
              refine (rbbytes_any Sv pv (frontB T ts) _ ((HV.out.kp HK23.out HVD.out).kp0 (show Kp [] w23 _ from by first | exact (Kp.refl [] w23) | exact (Kp.refl [] w23).drew | exact (Kp.refl [] w23).drew.drew | exact (Kp.refl [] w23).drew.drew.drew | exact (Kp.refl [] w23).drew.drew.drew.drew)) (by rw [HN2.out];omega)).mono ?_;rintro e w24 ⟨g24,m24,hm24,rfl,hb24,hg24,hk24⟩;have he24:m7=m24:=by rw [hm24,HN2.out,HM7.out]
              subst he24;rw [← HVB.out] at hb24;have HK24:Hid (Kp [] w23 w24):=Lib.hid ((show Kp [] w23 _ from by first | exact (Kp.refl [] w23) | exact (Kp.refl [] w23).drew | exact (Kp.refl [] w23).drew.drew | exact (Kp.refl [] w23).drew.drew.drew | exact (Kp.refl [] w23).drew.drew.drew.drew).trans hk24);have HR24:Hid (Rd w24 w24.heap.size (some ⟨g24,0,none⟩) (vb.map (.int .u8))):=Lib.hid (hb24.rd hb24.lt)
              clear hm24 hb24 hg24 hk24))

         all_goals
          have HS:=HR25.out.set;have HCF2:=Lib.hid (((HCF.out.kp HK23.out HR.out.2.2.2.2.2.1).kp HK25.out HR23.out.2.2.2.2.2.1).kp HS.2 (one_mem HR25.out.2.2.2.2.2.2.1));have HKX:=Lib.hid (((HK.out.trans' HK23.out (fun x hx=>.inr (Nat.le_trans HW4.out (own_ge HR.out.2.1 (mem_ownL.1 hx)).1))).trans' HK25.out (fun x hx=>.inr (Nat.le_trans HW4.out (own_ge HR23.out.2.1 (mem_ownL.1 hx)).1))).trans' HS.2 (fun x hx=>.inr (by rw [List.mem_singleton.1 hx];exact Nat.le_trans HW4.out HR25.out.2.2.2.1)));have HRS:=Lib.hid HS.1;clear HS;go_wp2_with fail
          go_meet
          exact ⟨rfl,_,_,HRS,HCF2,HKX⟩
        case rest =>
         obtain ⟨rfl,A8,c8,HR8,HCF8,HK8⟩:=hcut;clear HR HCF HK HV HVD hc1 hf1 hq1 hq2;obtain ⟨wy,hwy⟩:∃ wy,wy=wc:=⟨_,rfl⟩;rw [← hwy] at HR8 HCF8 HK8 ⊢;clear hwy;obtain ⟨M3,hM3⟩:∃ M3,M3=M+4+m7:=⟨_,rfl⟩;rw [← hM3] at HR8;have hM3b:M3≤3000000:=by omega
         obtain ⟨b3,hb3⟩:∃ b3,b3=bk ++ fourI N2 ++ vb:=⟨_,rfl⟩;rw [← hb3] at HR8;have HB3:=Lib.hid hb3;obtain ⟨B3,hq1,hq2,hrb,hrs,_,hm2,_⟩:=HCF8.out.front;have HSO:=Lib.hid (starts_ofE (T:=T) (ts:=ts) (by rw [HN.out];omega) HBF.out);have hm2b:m2≤4000:=by rw [← hm2,starts_len,HN.out];omega
         have HRS8:=Lib.hid (show Rd wy B3 As2 ((PK.intsN (startsN T ts)).map (.int .i64)) from by rw [natV_int] at hrs;exact hrs);have HIL:=Lib.hid (show (PK.intsN (startsN T ts)).length=m2 from by unfold PK.intsN;rw [List.length_map,hm2]);have HM2:=Lib.hid hm2;clear hM3 hb3 hrb hrs hm2;go_wp2_with fail;refine (PK.rof_any As2 m2 cs2 _ (PK.intsN (startsN T ts)) wy HRS8.out HIL.out (by omega) HSO.out.2.2.2.2.1).mono ?_;rintro e w30 ⟨hk30,⟨hne,_⟩ | ⟨_,pr,rfl,hrow⟩⟩
         ·exact absurd HSO.out.1 hne
         obtain ⟨wd,hwd⟩:∃ wd,wd=wdS T ts:=⟨_,rfl⟩;have HROW:=Lib.hid (show PK.RowR w30 wy.heap.size pr (wd:Int) (PK.intsN (startsN T ts)) from by rw [hwd];exact hrow);have hwd24:wd≤24:=by rw [hwd];exact HSO.out.2.1
         have HWD:=Lib.hid hwd
         have hp0:w30.cell? ⟨pr,0,none⟩=some (.int .i64 (wd:Int)):=by
          obtain ⟨_,_,hb,_⟩:=HROW.out;rw [hb.cell];rfl
         have HOD:=Lib.hid (show ∀ x ∈ ownL (.slice A8 M3 c8),x < wy.heap.size from fun x hx=>(own_ge HR8.out.2.1 (mem_ownL.1 hx)).2)
         have hprg:wy.heap.size≤pr:=by
          obtain ⟨_,_,_,_,_,hb,_⟩:=HROW.out;exact hb
         replace HCF8:=Lib.hid (HCF8.out.kp0 hk30);replace HR8:=Lib.hid (HR8.out.kp0 hk30);replace HK8:=Lib.hid (HK8.out.trans hk30);clear hrow hk30 hwd hq1 hq2 HRS8;have hc1:=HR8.out.cell.1;have hf1:=HR8.out.cell.2
         have hwr:IntKind.wrap .u8 (wd:Int)=(wd:Int):=by
          have h1:IntKind.wrap .u8 (wd:Int)=(wd:Int) % 256:=by simp [IntKind.wrap,IntKind.signed,IntKind.bits]
          rw [h1];omega
         have hc1a:(w30.alloc (.cells #[.int .u8 (wd:Int)] 5)).cell? ⟨r,1,none⟩=some (.slice A8 M3 c8):=((Kp.refl [] w30).alloc _).cell hc1 (by simp);have HP0:=Lib.hid (show (⟨pr,0,none⟩:Addr).block ∉ ownL (.slice A8 M3 c8) from fun hm=>by have:=HOD.out pr hm;omega);obtain ⟨m9,hm9⟩:∃ m9,m9=(wd * m2+7) / 8:=⟨_,rfl⟩
         have hm9b:m9≤100000:=by
          have h1:wd * m2≤24 * 4000:=Nat.mul_le_mul hwd24 hm2b;omega
         have HM9:=Lib.hid hm9;obtain ⟨rb,hrb⟩:∃ rb,rb=PK.bytesN (PK.packN wd (startsN T ts)) m9:=⟨_,rfl⟩;have HRB:=Lib.hid hrb;clear hm9 hrb
         go_upto_region 29 with (fail)
         go_cut [5] (fun s5 wx=>s5=.pointer (some ⟨r,0,none⟩)∧∃ (A9:Option Addr) (c9:Nat),Hid (RSu w4 a b wx r n ct At (.slice A9 (M3+1+m9) c9) A9 (M3+1+m9) c9 (b3 ++ [(wd:Int)] ++ rb))∧Hid (Kp [] w wx))
         case first =>
          go_region_law
           (first
            | (refine step_append_rd rfl (.tmp 161) (.tmp 167) 41 rfl w4.heap.size 5 i0 (.int .u8 0) 1 1 Tryz.underlying41 hi0 hz0 hz1 hz2 rfl (by decide) (.slice A8 M3 c8) (M3) _ (by rfl) (own_kp0 HR8.out.2.1 (show Kp [] w30 _ from by first | exact (Kp.refl [] w30).alloc _ | exact (Kp.refl [] w30).drew.alloc _ | exact ((Kp.refl [] w30).alloc _).drew | exact ((Kp.refl [] w30).drew.alloc _).drew | exact (Kp.refl [] w30).drew.drew.alloc _ | exact ((Kp.refl [] w30).alloc _).drew.drew | exact ((Kp.refl [] w30).drew.drew.alloc _).drew | exact ((Kp.refl [] w30).drew.alloc _).drew.drew)) _ _ 1 1 [.int .u8 (wd:Int)] (by rfl) (by rfl) (by first | exact rd_newS _ #[.int .u8 (wd:Int)] 5 rfl | exact (rd_newS _ #[.int .u8 (wd:Int)] 5 rfl).kp0 (Kp.refl _ _).drew | exact (rd_newS _ #[.int .u8 (wd:Int)] 5 rfl).kp0 (Kp.refl _ _).drew.drew) (oc_u8 ([(wd:Int)])) (by unfold maxLen;omega) (by omega) (HR8.out.2.2.2.2.2.2.2.trans (show Kp [] w30 _ from by first | exact (Kp.refl [] w30).alloc _ | exact (Kp.refl [] w30).drew.alloc _ | exact ((Kp.refl [] w30).alloc _).drew | exact ((Kp.refl [] w30).drew.alloc _).drew | exact (Kp.refl [] w30).drew.drew.alloc _ | exact ((Kp.refl [] w30).alloc _).drew.drew | exact ((Kp.refl [] w30).drew.drew.alloc _).drew | exact ((Kp.refl [] w30).drew.alloc _).drew.drew)).size ?_
               intro v33 w33 hown33 hgrow33 hat33;obtain ⟨A33,c33,rfl,hr33,hk33⟩:=HR8.out.app (ys:=[(wd:Int)]) rfl (show Kp [] w30 _ from by first | exact (Kp.refl [] w30).alloc _ | exact (Kp.refl [] w30).drew.alloc _ | exact ((Kp.refl [] w30).alloc _).drew | exact ((Kp.refl [] w30).drew.alloc _).drew | exact (Kp.refl [] w30).drew.drew.alloc _ | exact ((Kp.refl [] w30).alloc _).drew.drew | exact ((Kp.refl [] w30).drew.drew.alloc _).drew | exact ((Kp.refl [] w30).drew.alloc _).drew.drew) hown33 hgrow33 hat33;clear hown33 hgrow33 hat33;have HR33:Hid (RSu w4 a b w33 r n ct At (.slice A8 M3 c8) A33 (M3+1) c33 (b3 ++ [(wd:Int)])):=Lib.hid hr33;have HK33:Hid (Kp (ownL (.slice A8 M3 c8)) w30 w33):=Lib.hid hk33
               clear hr33 hk33)
            | (refine step_append_rd rfl (.tmp 168) (.tmp 170) 41 rfl w4.heap.size 5 i0 (.int .u8 0) 1 1 Tryz.underlying41 hi0 hz0 hz1 hz2 rfl (by decide) (.slice A33 (M3+1) c33) (M3+1) _ (by rfl) (own_kp0 HR33.out.2.1 (show Kp [] w33 _ from HK34.out.trans (show Kp [] w34 _ from by first | exact (Kp.refl [] w34) | exact (Kp.refl [] w34).drew | exact (Kp.refl [] w34).drew.drew | exact (Kp.refl [] w34).drew.drew.drew | exact (Kp.refl [] w34).drew.drew.drew.drew))) _ _ m9 _ (rb.map (.int .u8)) (by rfl) (by rw [List.length_map,HRB.out,PK.bytesN_len,Nat.mul_one]) (HR34.out.kp0 (show Kp [] w34 _ from by first | exact (Kp.refl [] w34) | exact (Kp.refl [] w34).drew | exact (Kp.refl [] w34).drew.drew | exact (Kp.refl [] w34).drew.drew.drew | exact (Kp.refl [] w34).drew.drew.drew.drew)) (oc_u8 (rb)) (by unfold maxLen;omega) (by omega) (HR33.out.2.2.2.2.2.2.2.trans (show Kp [] w33 _ from HK34.out.trans (show Kp [] w34 _ from by first | exact (Kp.refl [] w34) | exact (Kp.refl [] w34).drew | exact (Kp.refl [] w34).drew.drew | exact (Kp.refl [] w34).drew.drew.drew | exact (Kp.refl [] w34).drew.drew.drew.drew))).size ?_
               intro v35 w35 hown35 hgrow35 hat35;obtain ⟨A35,c35,rfl,hr35,hk35⟩:=HR33.out.app (ys:=rb) rfl (show Kp [] w33 _ from HK34.out.trans (show Kp [] w34 _ from by first | exact (Kp.refl [] w34) | exact (Kp.refl [] w34).drew | exact (Kp.refl [] w34).drew.drew | exact (Kp.refl [] w34).drew.drew.drew | exact (Kp.refl [] w34).drew.drew.drew.drew)) hown35 hgrow35 hat35;clear hown35 hgrow35 hat35;have HR35:Hid (RSu w4 a b w35 r n ct At (.slice A8 M3 c8) A35 (M3+1+m9) c35 (b3 ++ [(wd:Int)] ++ rb)):=Lib.hid hr35;have HK35:Hid (Kp (ownL (.slice A33 (M3+1) c33)) w33 w35):=Lib.hid hk35;have hc35:w35.cell? ⟨r,1,none⟩=some (.slice A8 M3 c8):=hr35.cell.1;have hf35:w35.frozen? ⟨r,1,none⟩=false:=hr35.cell.2
               clear hr35 hk35)
            | (go_simp
               go_at_call 47
               refine (PK.refbytes_any wy.heap.size pr wd (startsN T ts) _ ((HROW.out.kp HK33.out HOD.out).kp0 (show Kp [] w33 _ from by first | exact (Kp.refl [] w33) | exact (Kp.refl [] w33).drew | exact (Kp.refl [] w33).drew.drew | exact (Kp.refl [] w33).drew.drew.drew | exact (Kp.refl [] w33).drew.drew.drew.drew)) (by rw [HWD.out];exact HSO.out.2.2.1) (by rw [HWD.out];exact HSO.out.2.2.2.1)).mono ?_;rintro e w34 ⟨g34,m34,hm34,rfl,hb34,hg34,hk34⟩;have he34:m9=m34:=by rw [hm34,HM2.out,HM9.out]
               subst he34;rw [← HRB.out] at hb34;have HK34:Hid (Kp [] w33 w34):=Lib.hid ((show Kp [] w33 _ from by first | exact (Kp.refl [] w33) | exact (Kp.refl [] w33).drew | exact (Kp.refl [] w33).drew.drew | exact (Kp.refl [] w33).drew.drew.drew | exact (Kp.refl [] w33).drew.drew.drew.drew).trans hk34);have HR34:Hid (Rd w34 w34.heap.size (some ⟨g34,0,none⟩) (rb.map (.int .u8))):=Lib.hid (hb34.rd hb34.lt)
               clear hm34 hb34 hg34 hk34))

          all_goals
           have HS:=HR35.out.set;have HKX:=Lib.hid (((HK8.out.trans' HK33.out (fun x hx=>.inr (Nat.le_trans HW4.out (own_ge HR8.out.2.1 (mem_ownL.1 hx)).1))).trans' HK35.out (fun x hx=>.inr (Nat.le_trans HW4.out (own_ge HR33.out.2.1 (mem_ownL.1 hx)).1))).trans' HS.2 (fun x hx=>.inr (by rw [List.mem_singleton.1 hx];exact Nat.le_trans HW4.out HR35.out.2.2.2.1)));have HRS:=Lib.hid HS.1;clear HS;go_wp2_with fail
           go_meet
           exact ⟨rfl,_,_,HRS,HKX⟩
         case rest =>
          obtain ⟨rfl,A9,c9,HR9,HK9⟩:=hcut
          have HEQ:=Lib.hid (show secBytes ts=b3 ++ [(wd:Int)] ++ rb from by
           unfold secBytes;rw [if_neg (fun e=>by have h9:=HN.out;rw [e] at h9;simp at h9;omega),HN.out,← HTQ.out.2.2,← HTQ.out.2.1,← HTQ.out.1];unfold secB secR;rw [HB3.out,HVB.out,HBK1.out,HBS1.out,HBS.out,HN.out,HN2.out,← HM7.out,HRB.out,← HWD.out,HM2.out,← HM9.out,HSV.out]
           simp only [List.flatten_cons,List.flatten_nil,List.append_nil,List.append_assoc])
          go_wp2_with fail;go_ret2;exact ⟨HK9.out,.inr ⟨HRI.out,r,At,A9,ct,c9,n,_,rfl,by rw [HEQ.out];exact HR9.out.done HW4.out HO4.out HB4.out HN.out⟩⟩
end Go.Proofs.YtanacapkfllbnaaGreatDoor
namespace Go.Proofs.YtanacapkfllbnaaGreatDoor
open Go.RowKit

theorem Rd.lentS {w:World} {g:Nat} {l more:List ByteArray} (h:Blk w g 9 ((l ++ more).map .string)):Rd w w.heap.size (some ⟨g,0,none⟩) (l.map .string):=by
 have:=(h.rd h.lt).take (l.map Value.string).length
 rwa [List.map_append,List.take_left'] at this
 rfl
theorem sectionof_any (A0:Option Addr) (n c0:Nat) (ss:List ByteArray) (t:ByteArray) (i:Int) (w:World) (h0:Rd w w.heap.size A0 (ss.map .string)) (hn:ss.length=n) (hb:n≤140737488351232) (hl:∀ s ∈ ss,s.size≤140737488351232) (ht':t.size≤140737488351232) (hi1:-9223372036854775808≤i) (hi2:i≤9223372036854775807) (ht:Tab64 w) :
  Calls Tryz.prog 4 #[.slice A0 n c0,.string t,.int .i64 i] w fun e w'=>e=.returned (.bool true)∧Kp [] w w':=by
 have HX:=Lib.hid h0;clear h0;have HN:=Lib.hid hn;clear hn;have HL:=Lib.hid hl;clear hl;have HT:=Lib.hid ht;clear ht
 go_enter Tryz.func4,Tryz.ntmps4
 go_wp2_with fail;refine (ssize_any A0 n c0 _ ss w HX.out HN.out hb HL.out).mono ?_;rintro e w1 ⟨⟨Z,rfl,hZ,hnZ,hZs⟩,rfl⟩;have HZS:=Lib.hid hZs;clear hZs;by_cases hZ6:900 < Z+t.size
 ·have hzd:decide ((900:Int) < (Z:Int)+(t.size:Int))=true:=by simp;omega
  go_wp2_with fail;refine (awake_s w HT.out).mono ?_;rintro e w1 ⟨rfl,hk1⟩;go_wp2_with fail;go_ret;exact ⟨rfl,hk1⟩
 have HSL:=Lib.hid (show (symL ss).length≤900 from Nat.le_trans (HZS.out (by omega)) (by omega));have hzd:decide ((900:Int) < (Z:Int)+(t.size:Int))=false:=by simp;omega
 have hn9:n≤900:=by omega
 have ht9:t.size≤900:=by omega
 go_wp2_with fail;clear hzd hZ6 hZ hnZ hb ht' HZS;have HSZ:=Lib.hid (sym_size HSL.out);have HPC:=Lib.hid (sym_pieces HSL.out);refine (lentT A0 n c0 _ ss w HX.out HN.out (by omega)).mono ?_;rintro e w1 ⟨rfl,hk1,hb1⟩;obtain ⟨g,hg⟩:∃ g,w.heap.size=g:=⟨_,rfl⟩;rw [hg] at hb1 ⊢;have HG:=Lib.hid hg;have HB:=Lib.hid hb1;have HK1:=Lib.hid hk1;have HT1:=Lib.hid (HT.out.kp0 hk1);have HGT:=Lib.hid (show 0 < g from by rw [← hg];exact HT.out.lt);replace HX:=Lib.hid (HX.out.kp0 hk1);clear hk1 hb1 hg;go_wp2_with fail;refine (sof_any (some ⟨g,0,none⟩) n (n+12) _ ss w1 (Rd.lentS HB.out) HN.out (by have:=HSL.out;omega) (Nat.le_refl _) HT1.out).mono ?_;intro e w2 hS;obtain ⟨hk2,hcase⟩:=hS;have HCASE:=Lib.hid hcase;have HK2:=Lib.hid hk2;have HT2:=Lib.hid (HT1.out.kp0 hk2);replace HX:=Lib.hid (HX.out.kp0 hk2);have HB2:=Lib.hid (HB.out.kp0 hk2);clear hk2 hcase;have HRO:=Lib.hid (rof13_any A0 n c0 w.heap.size ss w2 HX.out HN.out (fun s hs=>by have:=HSZ.out s hs;omega) (by have h1:=HPC.out;rw [HN.out] at h1;omega) (Nat.le_trans HK1.out.size HK2.out.size));rcases HCASE.out with ⟨hr,rfl⟩ | ⟨hr,S,sp,v,gs,m,c,rfl,hsec,hS,hsp,hgS,hgs,bs,hbl,hm9,hrb,hbs⟩
 ·have HR:=Lib.hid hr;clear hr;go_wp2_with fail;refine HRO.out.mono ?_;rintro e w3 ⟨hk3,⟨_,rfl⟩ | ⟨hr,_⟩⟩
  ·have HK3:=Lib.hid hk3;clear hk3;go_wp2_with fail;refine (keptT (some ⟨g,0,none⟩) A0 n (n+12) c0 _ _ ss w3 ((HB2.out.kp0 HK3.out).rd (HB2.out.kp0 HK3.out).lt) (HX.out.kp0 HK3.out) HN.out (by omega) (by omega)).mono ?_;rintro e w4 ⟨rfl,hk4⟩;have HK4:=Lib.hid (HK3.out.trans hk4);have HKA:=Lib.hid (HK1.out.trans (HK2.out.trans HK4.out));have HK34:=Lib.hid hk4;clear hk4;go_wp2_with fail;refine (awake_s w4 (HT2.out.kp0 HK4.out)).mono ?_;rintro e w5 ⟨rfl,hk5⟩;go_wp2_with fail;go_ret;exact ⟨rfl,HKA.out.trans hk5⟩
  ·rw [HR.out] at hr;cases hr
 ·have HR:=Lib.hid hr;have HS:=Lib.hid hsec;have HSN:=Lib.hid (show (∀ x ∈ S,w1.heap.size≤x)∧w1.heap.size≤sp∧gs ∉ S∧w1.heap.size≤gs∧gs < w2.heap.size from ⟨hS,hsp,hgS,hgs⟩);have HSL2:=Lib.hid (show ∀ x ∈ S,x < w2.heap.size from hsec.2.1.lt);have HBL:=Lib.hid hbl;have HBS:=Lib.hid hbs;have HRB:=Lib.hid hrb;clear hr hsec hS hsp hgS hgs hbl hrb hbs HCASE;go_wp2_with fail;refine HRO.out.mono ?_;rintro e w3 ⟨hk3,⟨hr,_⟩ | ⟨_,r,At,Ab,ct,cb,n',m',rfl,hrs⟩⟩
  ·rw [HR.out] at hr;cases hr
  have HK3:=Lib.hid hk3;have HRS:=Lib.hid hrs;have HWW:=Lib.hid (show g < w1.heap.size from HB.out.lt);clear hk3 hrs HRO;go_wp2_with fail;refine (keptT (some ⟨g,0,none⟩) A0 n (n+12) c0 _ _ ss w3 ((HB2.out.kp0 HK3.out).rd (HB2.out.kp0 HK3.out).lt) (HX.out.kp0 HK3.out) HN.out (by omega) (by omega)).mono ?_;rintro e w4 ⟨rfl,hk4⟩;have HK4:=Lib.hid (HK3.out.trans hk4);have HKA:=Lib.hid (HK1.out.trans (HK2.out.trans HK4.out));have HK34:=Lib.hid hk4;clear hk4;go_wp2_with fail;replace HS:=Lib.hid (HS.out.kp0 HK4.out);replace HRB:=Lib.hid ((HRB.out.kp0 HK4.out).bound HK4.out.size);have HRS4:=Lib.hid (HRS.out.kp0 HK34.out);have HH4:=Lib.hid (show w2.heap.size≤w3.heap.size∧w3.heap.size≤w4.heap.size from ⟨HK3.out.size,HK34.out.size⟩);have HB4:=Lib.hid (HB2.out.kp0 HK4.out);have HT4:=Lib.hid (HT2.out.kp0 HK4.out);clear HK34 HRS HB2 HT2 HX HK3;refine (sbytes_any S sp gs m c v ss bs w4 HS.out HRB.out HBL.out hm9).mono ?_;rintro e w5 ⟨A5,c5,rfl,hown5,hk5⟩;have HO5:=Lib.hid hown5;have HK5:=Lib.hid hk5;clear hown5 hk5;go_wp2_with fail;refine (overB _ m c5 A5 _ w5 HO5.out hm9).mono ?_;rintro e w6 ⟨rfl,hk6⟩;have HK6:=Lib.hid (show Kp [] w4 w6 from HK5.out.trans' hk6 (fun x hx=>.inr (own_ge HO5.out (mem_ownL.1 hx)).1));clear hk6;go_wp2_with fail;refine (overT g n (n+12) _ w6 (HB4.out.kp0 HK6.out) (by rw [List.length_map,List.length_append,marksT_len,HN.out]) rfl (by omega)).mono ?_;rintro e w7 ⟨rfl,hk7⟩;have HK7:=Lib.hid (show Kp [g] w4 w7 from HK6.out.nil.trans hk7);clear hk7 HO5 HK5 HK6
  have HGS:=Lib.hid (show ∀ x ∈ [g],x ∉ S∧(x < w1.heap.size ∨ w2.heap.size≤x)∧x ≠ 0 from fun x hx=>by
   rw [List.mem_singleton.1 hx];refine ⟨fun hm=>?_,.inl HWW.out,fun e=>by have:=HGT.out;omega⟩;have:=HSN.out.1 g hm;have:=HWW.out
   omega)
  have HS7:=Lib.hid (HS.out.kp HK7.out HGS.out (fun hm=>by have h1:=List.mem_singleton.1 hm;have h2:=HSN.out.2.1;have h3:=HWW.out;omega));have HRS7:=Lib.hid (HRS4.out.kp HK7.out (fun x hx=>by rw [List.mem_singleton.1 hx];left;have h3:=HWW.out;have h4:=HK2.out.size;omega))
  have HRB7:=Lib.hid ((HRB.out.kp_ne HK7.out (fun ad e hm=>by
   injection e with e
   subst e;have h1:=List.mem_singleton.1 hm;have h2:=HSN.out.2.2.2.1;have h3:=HWW.out;simp only at h1
   omega)).bound HK7.out.size)
  have HT7:=Lib.hid (HT4.out.kp HK7.out (fun hm=>by have h1:=List.mem_singleton.1 hm;have:=HGT.out;omega));have HKB:=Lib.hid (show Kp [] w w7 from HKA.out.trans' HK7.out (fun x hx=>.inr (by rw [List.mem_singleton.1 hx,HG.out];exact Nat.le_refl _)));have HSZ2:=Lib.hid (show ∀ x ∈ ss,x.size≤1000000000000 from fun s hs=>by have:=HSZ.out s hs;omega);clear HS HRS4 HRB HT4 HB4;go_wp2_with fail;refine (same13_any t i sp gs m c w2.heap.size w3.heap.size r ct cb n' m' At Ab S v ss bs w7 HS7.out HRB7.out HBL.out hm9 HSN.out.2.2.1 (by have h1:=HSN.out.2.2.2.2;have h2:=HH4.out;have h3:=HK7.out.size;omega) (by rw [HBS.out];exact HRS7.out) (fun x hx=>.inl (HSL2.out x hx)) (Nat.le_trans HH4.out.2 HK7.out.size) (by omega) HSZ2.out hi1 hi2).mono ?_;rintro e w8 ⟨rfl,hk8⟩;have HT8:=Lib.hid (HT7.out.kp hk8 (fun hm=>HS7.out.2.1.tabS _ hm rfl));have HKC:=Lib.hid (show Kp [] w w8 from HKB.out.trans' hk8 (fun x hx=>.inr (Nat.le_trans HK1.out.size (HSN.out.1 x hx))));clear hk8;go_wp2_with fail;refine (awake_s w8 HT8.out).mono ?_;rintro e w9 ⟨rfl,hk9⟩;go_wp2_with fail;go_ret;exact ⟨rfl,HKC.out.trans hk9⟩
theorem rmake13_any (A A':Option Addr) (n m c c' B B':Nat) (sm lens:List Int) (w:World) (hx:Rd w B A (sm.map (.int .i64))) (hy:Rd w B' A' (lens.map (.int .i64))) (hn:sm.length=n) (hm:lens.length=m) (hb:n≤1000000000) (hr:∀ x ∈ lens,x≤9223372036854775807) :
  Calls Tryz.prog 89 #[.slice A n c,.slice A' m c'] w (RMakeP w sm lens):=by
 classical
 by_cases hnm:n=m
 ·subst hnm;by_cases hf:okF lens
  ·exact rmake_any A A' n c c' B B' sm lens w hx hy hn hm hb hr hf
  ·refine (rmake_no2 A A' n c c' B' lens w hy hm hb hr hf).mono ?_;rintro e w' ⟨rfl,hk⟩;exact RMakeP.no (fun h=>hf h.2.1) hk
 ·refine (rmake_no1 A A' n m c c' w hnm).mono ?_;rintro e w' ⟨rfl,hk⟩;exact RMakeP.no (fun h=>hnm (by rw [← hn,← hm];exact h.1)) hk
theorem onesK_mono (bs:List Bool) {j k:Nat} (h:j≤k) (hk:k≤bs.length):(onesK bs j).length≤(onesK bs k).length:=by
 rw [onesK_len bs j (by omega),onesK_len bs k hk,show k=j+(k - j) by omega,cntI_add];omega
theorem numA_range {b:List Int} (hv:∀ x ∈ b,0≤x∧x≤255) (a:Nat):-1≤numA b a∧numA b a≤4294967295:=by
 unfold numA
 split
 ·omega
 ·rename_i h
  have hl:((b.drop a).take 4).length=4:=by rw [List.length_take,List.length_drop];omega
  obtain ⟨x0,x1,x2,x3,e⟩:∃ x0 x1 x2 x3,(b.drop a).take 4=[x0,x1,x2,x3]:=by
   match (b.drop a).take 4,hl with
   | [p,q,r,s],_=>exact ⟨p,q,r,s,rfl⟩
  have hm:∀ x ∈ [x0,x1,x2,x3],0≤x∧x≤255:=fun x hx=>hv x (List.mem_of_mem_drop (List.mem_of_mem_take (by rw [e];exact hx)))
  have h0:=hm x0 (by simp);have h1:=hm x1 (by simp);have h2:=hm x2 (by simp);have h3:=hm x3 (by simp);rw [e]
  show -1≤(((0 * 256+x0) * 256+x1) * 256+x2) * 256+x3∧(((0 * 256+x0) * 256+x1) * 256+x2) * 256+x3≤_
  omega
def RtextsP (b:List Int) (w:World) (e:Ending) (w':World):Prop:=
 Kp [] w w'∧((readTx b=none∧∃ v,e=.returned (.tuple #[v,.bool false])) ∨
  (∃ (ts:List ByteArray) (A:Option Addr) (n c:Nat),readTx b=some ts∧e=.returned (.tuple #[.slice A n c,.bool true])∧Rd w' w'.heap.size A (ts.map .string)∧ts.length=n))
theorem rtexts13_any (A:Option Addr) (n c B:Nat) (b:List Int) (w:World) (hx:Rd w B A (b.map (.int .u8))) (hn:b.length=n) (hc:n≤c) (hn9:n≤1000000000) (hv:∀ x ∈ b,0≤x∧x≤255) (hfit:FitB b) :
  Calls Tryz.prog 55 #[.slice A n c] w (RtextsP b w):=by
 obtain ⟨i0,hi0,hz0,hz1,hz2⟩:=info_parts Tryz.info_aint;have HX:=Lib.hid hx;have HFIT:=Lib.hid hfit;have HN:=Lib.hid hn;clear hn;have HV:=Lib.hid hv;clear hv;clear hx hfit;obtain ⟨V,hV⟩:∃ V,numA b 0=V:=⟨_,rfl⟩;have hrg:=numA_range HV.out 0;rw [hV] at hrg;have HVA:=Lib.hid hV;have HNB:=Lib.hid (rnumber13_any A n c B 0 b w HX.out HN.out (by omega) HV.out);rw [hV] at HNB;clear hV
 go_enter Tryz.func55,Tryz.ntmps55
 go_wp2_with fail;refine HNB.out.mono ?_;rintro e w1 ⟨rfl,hd1⟩;have HK1:=Lib.hid (hd1.kp []);replace HX:=Lib.hid (HX.out.kp0 (hd1.kp []));clear hd1 HNB;by_cases hV0:V=0
 ·subst hV0;have HYES:=Lib.hid (show readTx b=some [] from readTx_nil HVA.out);go_wp2_with fail;go_ret2;exact ⟨HK1.out,.inr ⟨[],none,0,0,HYES.out,rfl,Rd.nil _ _ _,rfl⟩⟩
 have hv0:(V == 0)=false:=by simp;omega
 by_cases hVn:V < 0
 ·have hvd:decide (V≤0)=true:=by simp;omega
  have hbad:numA b 0 < 0:=by rw [HVA.out];exact hVn
  have HNO:=Lib.hid (show readTx b=none from readTx_bad (by rw [HVA.out];exact hV0) (.inl hbad))
  try clear hbad
  go_wp2_with fail;go_ret2;exact ⟨HK1.out,.inl ⟨HNO.out,_,rfl⟩⟩
 have hvd:decide (V≤0)=false:=by simp;omega
 by_cases hV6:65536 < V
 ·have hvd6:decide ((65536:Int) < V)=true:=by simp;omega
  have hbad:65536 < numA b 0:=by rw [HVA.out];exact hV6
  have HNO:=Lib.hid (show readTx b=none from readTx_bad (by rw [HVA.out];exact hV0) (.inr (.inl hbad)))
  try clear hbad
  go_wp2_with fail;go_ret2;exact ⟨HK1.out,.inl ⟨HNO.out,_,rfl⟩⟩
 have hvd6:decide ((65536:Int) < V)=false:=by simp;omega
 by_cases h37:n < 37
 ·have hnd:decide ((n:Int) < 37)=true:=by simp;omega
  have hbad:b.length < 37:=by rw [HN.out];exact h37
  have HNO:=Lib.hid (show readTx b=none from readTx_bad (by rw [HVA.out];exact hV0) (.inr (.inr (.inl hbad))))
  try clear hbad
  go_wp2_with fail;go_ret2;exact ⟨HK1.out,.inl ⟨HNO.out,_,rfl⟩⟩
 have hnd:decide ((n:Int) < 37)=false:=by simp;omega
 obtain ⟨ad,rfl⟩:∃ ad,A=some ad:=by
  cases A with
  | none=>have h9:=HX.out.none_nil;have h8:b=[]:=by simpa using h9
          have h7:=HN.out;rw [h8] at h7;simp at h7;omega
  | some ad=>exact ⟨ad,rfl⟩
 have h37n:37≤n:=by omega
 have h37c:37≤c:=by omega
 have h37i:(37:Int)≤(c:Int):=by omega
 have hc4:¬ c=4:=by omega
 have hc4i:¬ (c:Int)=4:=by omega
 have HB4:=Lib.hid (show Rd w1 B (some ⟨ad.block,ad.off+4,none⟩) ((intsN (natsB b 4 33)).map (.int .u8)) from by
  have h1:Rd w1 B (some (ad.add 4)) (((b.drop 4).take 33).map (.int .u8)):=by
   rw [List.map_take,List.map_drop];exact (HX.out.drop 4).take 33
  unfold natsB;rw [intsN_bytes (fun x hx=>HV.out x (List.mem_of_mem_drop (List.mem_of_mem_take hx)))]
  exact h1)
 have HL4:=Lib.hid (show (natsB b 4 33).length=33 from by unfold natsB;rw [List.length_map,List.length_take,List.length_drop,HN.out];omega)
 have HN4:=Lib.hid (show ∀ y ∈ natsB b 4 33,y < 2 ^ 8 from fun y hy=>by
  unfold natsB at hy;obtain ⟨x,hx,rfl⟩:=List.mem_map.1 hy;have h1:=HV.out x (List.mem_of_mem_drop (List.mem_of_mem_take hx))
  show x.toNat < 256
  omega)
 go_wp2_with fail;refine (rbread_any 257 (some ⟨ad.block,ad.off+4,none⟩) 33 (c - 4) B (natsB b 4 33) w1 HB4.out HL4.out (by omega) HN4.out).mono ?_;rintro e w2 ⟨hk2,⟨hne,rfl⟩ | ⟨hz,S,pv,rfl,hvec,hS⟩⟩
 ·have hbad:=hne;obtain ⟨y,hy⟩:∃ y,readE 257 (natsB b 4 33)=y:=⟨_,rfl⟩;rw [hy] at hne ⊢;have hy0:(y != 0)=true:=by simpa using hne
  have HK2:=Lib.hid (HK1.out.trans hk2);have HBA:=Lib.hid hbad;clear hne hk2 hy hbad;have HNO:=Lib.hid (show readTx b=none from readTx_bad (by rw [HVA.out];exact hV0) (.inr (.inr (.inr (.inl HBA.out)))))
  try clear hbad
  go_wp2_with fail;go_ret2;exact ⟨HK2.out,.inl ⟨HNO.out,_,rfl⟩⟩
 obtain ⟨bits,hbits⟩:∃ bits,bitsOf 257 (packN 8 (natsB b 4 33))=bits:=⟨_,rfl⟩;have HSG:=Lib.hid (show sgB b=onesL bits from by unfold sgB;rw [hbits]);have HBL:=Lib.hid (show bits.length=257 from by rw [← hbits,bitsOf_len]);have HVE:=Lib.hid (show RefV w2 S pv bits from by rw [← hbits];exact hvec);have HK2:=Lib.hid (HK1.out.trans hk2);have HZ:=Lib.hid hz;replace HX:=Lib.hid (HX.out.kp0 hk2);clear hbits hvec hS hz hk2 HK1 HB4 HL4 HN4;go_wp2_with fail
 go_loopw [7,8,9,10] (fun s7 s8 s9 x wr=>∃ (j k c7 c8 a:Nat) (A7 A8:Option Addr),s7=.slice A7 k c7∧s8=.slice A8 k c8∧s9=.int .i64 (a:Int)∧x=.int .i64 (j:Int)∧j≤257∧a≤n∧k≤j∧Hid (a=37+k)∧Hid ((onesK bits j).length=k)∧Hid (wr.ownsRow w2.heap.size 3 1 (.slice A7 k c7) k ((onesK bits j).map fun (x:Nat)=>.int .i64 (x:Int)))∧Hid (wr.ownsRow w2.heap.size 3 1 (.slice A8 k c8) k ((lensB b k).map (.int .i64)))∧Hid (∀ x ∈ ownL (.slice A7 k c7),x ∉ ownL (.slice A8 k c8))∧Hid (Kp [] w2 wr)) (fun _ _ _ x _=>257 - (intOf x).toNat)
 case atStart=>exact ⟨0,0,0,0,37,none,none,rfl,rfl,rfl,rfl,by omega,by omega,by omega,Lib.hid rfl,Lib.hid (by simp [onesK]),Lib.hid (World.ownsRow_nil _ _ _ 1),Lib.hid (World.ownsRow_nil _ _ _ 1),Lib.hid (by simp [mem_ownL,Value.ownBlock]),Lib.hid (Kp.refl _ _)⟩
 case round =>
  obtain ⟨j,k,c7,c8,a,A7,A8,rfl,rfl,rfl,rfl,hj,han,hkj,HA,HKL,HO7,HO8,HAP,HKR⟩:=hrel;by_cases hlt:j < 257
  ·obtain ⟨bb,hbb⟩:∃ bb,bits[j]? = some bb:=⟨_,List.getElem?_eq_getElem (by rw [HBL.out];exact hlt)⟩;have HBB:=Lib.hid hbb;have HG:=Lib.hid (rbget_any S pv (j:Int) bits wr (HVE.out.kp0 HKR.out));rw [show getB bits (j:Int)=bb from by unfold getB;rw [if_neg (by omega),Int.toNat_natCast,List.getD_eq_getElem?_getD,hbb];rfl] at HG;clear hbb
   cases bb with
   | false =>
     have HON:=Lib.hid (onesK_no HBB.out);go_wp2_with fail;refine HG.out.mono ?_;rintro e w3 ⟨rfl,rfl⟩;go_wp2_with fail;exact ⟨⟨j+1,k,c7,c8,a,A7,A8,rfl,rfl,rfl,by go_num,by omega,han,by omega,HA,Lib.hid (by rw [HON.out];exact HKL.out),Lib.hid (by rw [HON.out];exact HO7.out),HO8,HAP,HKR⟩,by simp [intOf];omega⟩
   | true =>
     have HON:=Lib.hid (onesK_yes HBB.out)
     have HMO:=Lib.hid (show k+1≤(sgB b).length from by
      have h1:=onesK_mono bits (j:=j+1) (k:=bits.length) (by rw [HBL.out];omega) (Nat.le_refl _);rw [HON.out,List.length_append,HKL.out] at h1;rw [HSG.out]
      exact h1)
     go_wp2_with fail;refine HG.out.mono ?_;rintro e w3 ⟨rfl,rfl⟩;by_cases hend:a=n
     ·have hed:((a:Int) == (n:Int))=true:=by simp;omega
      have HBA:=Lib.hid (show b.length < atB b from by unfold atB;rw [HN.out];have h1:=HMO.out;have h2:=HA.out;omega);have HKX:=Lib.hid (HK2.out.trans HKR.out);have HNO:=Lib.hid (show readTx b=none from readTx_bad (by rw [HVA.out];exact hV0) (.inr (.inr (.inr (.inr (.inl HBA.out))))))
      try clear hbad
      go_wp2_with fail;go_ret2;exact ⟨HKX.out,.inl ⟨HNO.out,_,rfl⟩⟩
     have hed:((a:Int) == (n:Int))=false:=by simp;omega
     obtain ⟨y,hy⟩:∃ y,b[a]? = some y:=⟨_,List.getElem?_eq_getElem (by rw [HN.out];omega)⟩;obtain ⟨ad',e',_,hcy⟩:=(HX.out.kp0 HKR.out).at_ (i:=a) (u:=.int .u8 y) (by rw [List.getElem?_map,hy];rfl);injection e' with e'
     subst e';have hyv:=HV.out y (List.mem_of_getElem? hy);have hb0:(0:Int)≤(a:Int):=by omega
     have hb1:(a:Int) < (n:Int):=by omega
     have HLB:=Lib.hid (show lensB b (k+1)=lensB b k ++ [lenN y] from by
      unfold lensB;rw [List.take_add_one,List.getElem?_drop,show 37+k=a by have:=HA.out;omega,hy,List.map_append]
      rfl)
     have HSZ:=Lib.hid HKR.out.size;clear hy;by_cases hy0:y=0
     ·subst hy0;have HLE:=Lib.hid (show lenN 0=256 from rfl)
      go_wp2_with first
       | (at_builtin;refine wpList_append_rd rfl (.tmp 58) (.tmp 60) 81 rfl w2.heap.size 3 i0 (.int .i64 0) 1 8 Tryz.underlying81 hi0 hz0 hz1 hz2 rfl (by decide) (.slice A7 k c7) k _ rfl (own_kp0 HO7.out ((Kp.refl [] _).alloc _)) _ _ 1 1 [.int .i64 (j:Int)] rfl rfl (Rd.new wr #[.int .i64 (j:Int)] 3 (0,0)) (by intro u hu;simp at hu;subst hu;rfl) (by unfold maxLen;omega) (by omega) (by have:=HSZ.out;simp;omega) ?_;intro v5 w5 hown5 hgrow5 hat5
          obtain ⟨hka5,hga5⟩:=app_facts hgrow5 hat5;obtain ⟨A5,c5,rfl,_⟩:=own_form hown5;have HO5:=Lib.hid hown5;have HK5:=Lib.hid hka5;have HZ5:=Lib.hid (Nat.le_trans HSZ.out hka5.size);have HO8b:=Lib.hid (own_kp HO8.out hka5 (fun g hg hm=>HAP.out g hm (mem_ownL.2 hg)))
          have HAP5:=Lib.hid (show ∀ x ∈ ownL (.slice A5 (k+1) c5),x ∉ ownL (.slice A8 k c8) from fun x hx hm=>by
           rcases hga5 x hx with h | h
           ·exact HAP.out x h hm
           ·have:=(own_ge HO8.out (mem_ownL.1 hm)).2;omega)
          clear hown5 hgrow5 hat5 hka5 hga5)
       | (at_builtin;refine wpList_append_rd rfl (.tmp 62) (.tmp 64) 81 rfl w2.heap.size 3 i0 (.int .i64 0) 1 8 Tryz.underlying81 hi0 hz0 hz1 hz2 rfl (by decide) (.slice A8 k c8) k _ rfl (own_kp0 HO8b.out ((Kp.refl [] _).alloc _)) _ _ 1 1 [.int .i64 (256)] rfl rfl (Rd.new w5 #[.int .i64 (256)] 3 (0,0)) (by intro u hu;simp at hu;subst hu;rfl) (by unfold maxLen;omega) (by omega) (by have:=HZ5.out;simp;omega) ?_;intro v6 w6 hown6 hgrow6 hat6
          obtain ⟨hka6,hga6⟩:=app_facts hgrow6 hat6;obtain ⟨A6,c6,rfl,_⟩:=own_form hown6;have HO6:=Lib.hid hown6;have HO5b:=Lib.hid (own_kp HO5.out hka6 (fun g hg hm=>HAP5.out g (mem_ownL.2 hg) hm))
          have HAP6:=Lib.hid (show ∀ x ∈ ownL (.slice A5 (k+1) c5),x ∉ ownL (.slice A6 (k+1) c6) from fun x hx hm=>by
           rcases hga6 x hm with h | h
           ·exact HAP5.out x hx h
           ·have:=(own_ge HO5.out (mem_ownL.1 hx)).2;omega)
          have HK6:=Lib.hid (show Kp [] w2 w6 from (HKR.out.trans' HK5.out (fun x hx=>.inr (own_ge HO7.out (mem_ownL.1 hx)).1)).trans' hka6 (fun x hx=>.inr (own_ge HO8.out (mem_ownL.1 hx)).1))
          clear hown6 hgrow6 hat6 hka6 hga6)
      exact ⟨⟨j+1,k+1,c5,c6,a+1,A5,A6,rfl,rfl,by go_num,by go_num,by omega,by omega,by omega,Lib.hid (by have:=HA.out;omega),Lib.hid (by rw [HON.out,List.length_append,HKL.out];rfl),Lib.hid (by rw [HON.out,List.map_append];exact HO5b.out),Lib.hid (by rw [HLB.out,List.map_append];have h9:=HO6.out;rw [← HLE.out] at h9;exact h9),HAP6,HK6⟩,by simp [intOf];omega⟩
     ·have HLE:=Lib.hid (show lenN y=y from by unfold lenN;rw [if_neg hy0]);have hyz:(y == 0)=false:=by simpa using hy0
      go_wp2_with first
       | (at_builtin;refine wpList_append_rd rfl (.tmp 58) (.tmp 60) 81 rfl w2.heap.size 3 i0 (.int .i64 0) 1 8 Tryz.underlying81 hi0 hz0 hz1 hz2 rfl (by decide) (.slice A7 k c7) k _ rfl (own_kp0 HO7.out ((Kp.refl [] _).alloc _)) _ _ 1 1 [.int .i64 (j:Int)] rfl rfl (Rd.new wr #[.int .i64 (j:Int)] 3 (0,0)) (by intro u hu;simp at hu;subst hu;rfl) (by unfold maxLen;omega) (by omega) (by have:=HSZ.out;simp;omega) ?_;intro v5 w5 hown5 hgrow5 hat5
          obtain ⟨hka5,hga5⟩:=app_facts hgrow5 hat5;obtain ⟨A5,c5,rfl,_⟩:=own_form hown5;have HO5:=Lib.hid hown5;have HK5:=Lib.hid hka5;have HZ5:=Lib.hid (Nat.le_trans HSZ.out hka5.size);have HO8b:=Lib.hid (own_kp HO8.out hka5 (fun g hg hm=>HAP.out g hm (mem_ownL.2 hg)))
          have HAP5:=Lib.hid (show ∀ x ∈ ownL (.slice A5 (k+1) c5),x ∉ ownL (.slice A8 k c8) from fun x hx hm=>by
           rcases hga5 x hx with h | h
           ·exact HAP.out x h hm
           ·have:=(own_ge HO8.out (mem_ownL.1 hm)).2;omega)
          clear hown5 hgrow5 hat5 hka5 hga5)
       | (at_builtin;refine wpList_append_rd rfl (.tmp 62) (.tmp 64) 81 rfl w2.heap.size 3 i0 (.int .i64 0) 1 8 Tryz.underlying81 hi0 hz0 hz1 hz2 rfl (by decide) (.slice A8 k c8) k _ rfl (own_kp0 HO8b.out ((Kp.refl [] _).alloc _)) _ _ 1 1 [.int .i64 (y)] rfl rfl (Rd.new w5 #[.int .i64 (y)] 3 (0,0)) (by intro u hu;simp at hu;subst hu;rfl) (by unfold maxLen;omega) (by omega) (by have:=HZ5.out;simp;omega) ?_;intro v6 w6 hown6 hgrow6 hat6
          obtain ⟨hka6,hga6⟩:=app_facts hgrow6 hat6;obtain ⟨A6,c6,rfl,_⟩:=own_form hown6;have HO6:=Lib.hid hown6;have HO5b:=Lib.hid (own_kp HO5.out hka6 (fun g hg hm=>HAP5.out g (mem_ownL.2 hg) hm))
          have HAP6:=Lib.hid (show ∀ x ∈ ownL (.slice A5 (k+1) c5),x ∉ ownL (.slice A6 (k+1) c6) from fun x hx hm=>by
           rcases hga6 x hm with h | h
           ·exact HAP5.out x hx h
           ·have:=(own_ge HO5.out (mem_ownL.1 hx)).2;omega)
          have HK6:=Lib.hid (show Kp [] w2 w6 from (HKR.out.trans' HK5.out (fun x hx=>.inr (own_ge HO7.out (mem_ownL.1 hx)).1)).trans' hka6 (fun x hx=>.inr (own_ge HO8.out (mem_ownL.1 hx)).1))
          clear hown6 hgrow6 hat6 hka6 hga6)
      exact ⟨⟨j+1,k+1,c5,c6,a+1,A5,A6,rfl,rfl,by go_num,by go_num,by omega,by omega,by omega,Lib.hid (by have:=HA.out;omega),Lib.hid (by rw [HON.out,List.length_append,HKL.out];rfl),Lib.hid (by rw [HON.out,List.map_append];exact HO5b.out),Lib.hid (by rw [HLB.out,List.map_append];have h9:=HO6.out;rw [← HLE.out] at h9;exact h9),HAP6,HK6⟩,by simp [intOf];omega⟩
  ·obtain rfl:j=257:=by omega
   obtain ⟨wq,hwq⟩:∃ wq,wq=wr:=⟨_,rfl⟩;rw [← hwq] at HO7 HO8 HKR ⊢;clear hwq
   have HKS:=Lib.hid (show k=(sgB b).length∧a=atB b from by
    have h1:=HKL.out;rw [← HBL.out] at h1;have h2:(sgB b).length=k:=by rw [HSG.out];exact h1
    exact ⟨h2.symm,by unfold atB;rw [h2];exact HA.out⟩)
   have HSM:=Lib.hid (show Rd wq wq.heap.size A7 ((smB b).map (.int .i64)) from by
    have h1:=own_rd HO7.out;unfold smB;rw [HSG.out,List.map_map];have h2:onesK bits 257=onesL bits:=by unfold onesL;rw [HBL.out]
    rw [h2] at h1
    exact h1)
   have HLS:=Lib.hid (show Rd wq wq.heap.size A8 ((lsB b).map (.int .i64)) from by
    have h1:=own_rd HO8.out;unfold lsB;rw [← HKS.out.1]
    exact h1)
   have HL1:=Lib.hid (show (smB b).length=k from by unfold smB;rw [List.length_map];exact HKS.out.1.symm);have HL2:=Lib.hid (show (lsB b).length=k from by unfold lsB lensB;rw [List.length_map,List.length_take,List.length_drop,HN.out,← HKS.out.1];have:=HA.out;omega)
   have HLV:=Lib.hid (show ∀ x ∈ lsB b,x≤9223372036854775807 from fun x hx=>by
    unfold lsB lensB at hx;obtain ⟨y,hy,rfl⟩:=List.mem_map.1 hx;have h1:=HV.out y (List.mem_of_mem_drop (List.mem_of_mem_take hy));unfold lenN
    split <;> omega)
   have HK3:=Lib.hid (HK2.out.trans HKR.out);replace HX:=Lib.hid (HX.out.kp0 HKR.out);clear HO7 HO8 HAP HKR HVE HK2 hlt;go_wp2_with fail;refine (rmake13_any A7 A8 k k c7 c8 _ _ (smB b) (lsB b) wq HSM.out HLS.out HL1.out HL2.out (by omega) HLV.out).mono ?_;rintro e w4 ⟨hyes,hno,hk4⟩;have HK4:=Lib.hid (HK3.out.trans hk4);have HK34:=Lib.hid hk4;replace HX:=Lib.hid (HX.out.kp0 hk4);clear hk4;obtain ⟨M,hM⟩:∃ M,numA b a=M:=⟨_,rfl⟩;have hrgM:=numA_range HV.out a;rw [hM] at hrgM;have HMM:=Lib.hid (show numA b (atB b)=M from by rw [← HKS.out.2];exact hM);have HNU:=Lib.hid (rnumber13_any (some ad) n c B a b w4 HX.out HN.out (by omega) HV.out);rw [hM] at HNU;clear hM HK3;by_cases hok:okMake (smB b) (lsB b)
   case neg =>
    obtain rfl:=hno hok;have HBA:=Lib.hid hok;clear hyes hno hok;go_wp2_with fail;refine HNU.out.mono ?_;rintro e w5 ⟨rfl,hd5⟩;have HK5:=Lib.hid (HK4.out.trans (hd5.kp []));clear hd5 HNU;have HNO:=Lib.hid (show readTx b=none from readTx_bad (by rw [HVA.out];exact hV0) (.inr (.inr (.inr (.inr (.inr (.inl HBA.out)))))))
    try clear hbad
    go_wp2_with fail;go_ret2;exact ⟨HK5.out,.inl ⟨HNO.out,_,rfl⟩⟩
   obtain ⟨p,rfl,hcode⟩:=hyes hok;have HC:=Lib.hid hcode;have HOK:=Lib.hid hok;clear hyes hno hok hcode;go_wp2_with fail;refine HNU.out.mono ?_;rintro e w5 ⟨rfl,hd5⟩;have HK5:=Lib.hid (HK4.out.trans (hd5.kp []));replace HC:=Lib.hid (HC.out.kp0 (hd5.kp []));replace HX:=Lib.hid (HX.out.kp0 (hd5.kp []));have HHI:=Lib.hid (show w4.heap.size≤w5.heap.size from (hd5.kp []).size);clear hd5 HNU HK4;by_cases hM0:M < 0
   ·have hmd:decide (M < 0)=true:=by simpa using hM0
    have hbad:numA b (atB b) < 0:=by rw [HMM.out];exact hM0
    have HNO:=Lib.hid (show readTx b=none from readTx_bad (by rw [HVA.out];exact hV0) (.inr (.inr (.inr (.inr (.inr (.inr (.inl hbad))))))))
    try clear hbad
    go_wp2_with fail;go_ret2;exact ⟨HK5.out,.inl ⟨HNO.out,_,rfl⟩⟩
   have hmd:decide (M < 0)=false:=by simpa using hM0
   obtain ⟨N,rfl⟩:∃ N:Nat,M=(N:Int):=⟨M.toNat,by omega⟩;have HMN:=Lib.hid (show manyN b=N from by unfold manyN;rw [HMM.out];rfl);obtain ⟨Q,hQ⟩:∃ Q,(N+7) / 8=Q:=⟨_,rfl⟩;have hdiv:Int.tdiv ((N:Int)+7) 8=(Q:Int):=by rw [Int.tdiv_eq_ediv_of_nonneg (by omega)];omega
   have HQQ:=Lib.hid hQ;have hQb:Q≤536870912:=by omega
   by_cases hend:n < a+4+Q
   ·have hed:decide ((n:Int) < (a:Int)+4+(Q:Int))=true:=by simp;omega
    have hbad:b.length < atB b+4+(manyN b+7) / 8:=by rw [HMN.out,HN.out,← HKS.out.2,hQ];omega
    clear hQ;have HNO:=Lib.hid (show readTx b=none from readTx_bad (by rw [HVA.out];exact hV0) (.inr (.inr (.inr (.inr (.inr (.inr (.inr (.inl hbad)))))))))
    try clear hbad
    go_wp2_with fail;go_ret2;exact ⟨HK5.out,.inl ⟨HNO.out,_,rfl⟩⟩
   have hed:decide ((n:Int) < (a:Int)+4+(Q:Int))=false:=by simp;omega
   clear hQ
   have HNV:=Lib.hid (show ∀ y ∈ vbB b,y < 2 ^ 8 from fun y hy=>by
    unfold vbB natsB at hy;obtain ⟨x,hx,rfl⟩:=List.mem_map.1 hy;have h1:=HV.out x (List.mem_of_mem_drop (List.mem_of_mem_take hx))
    show x.toNat < 256
    omega)
   have HVL:=Lib.hid (show (vbB b).length=Q from by
    unfold vbB natsB;rw [List.length_map,List.length_take,List.length_drop,HMN.out,HQQ.out,HN.out,← HKS.out.2]
    omega)
   have HVR:=Lib.hid (show Rd w5 B (some (ad.add (a+4))) ((intsN (vbB b)).map (.int .u8)) from by
    unfold vbB natsB;rw [intsN_bytes (fun x hx=>HV.out x (List.mem_of_mem_drop (List.mem_of_mem_take hx))),HMN.out,HQQ.out,← HKS.out.2,List.map_take,List.map_drop]
    exact (HX.out.drop (a+4)).take Q)
   have HHC:=Lib.hid (show 0 < Q→w5.heap.size≤w5.heap.size from fun _=>Nat.le_refl _);clear HHC;have h4n:a+4≤n:=by omega
   by_cases hca:c=a+4
   ·have hQ0:Q=0:=by omega
    have hnc:n=c:=by omega
    subst hQ0
    have HRZ:=Lib.hid (show Rd w5 B (some ad) ((intsN (vbB b)).map (.int .u8)) from by
     rw [List.length_eq_zero_iff.1 HVL.out]
     exact Rd.nil _ _ _)
    go_wp2_with fail;refine (rbread_any (N:Int) (some ad) 0 0 B (vbB b) w5 HRZ.out HVL.out (by omega) HNV.out).mono ?_;rintro e w6 ⟨hk6,⟨hne,rfl⟩ | ⟨hz,S2,pv2,rfl,hvec,hS2⟩⟩
    ·have hbad:=hne;obtain ⟨y,hy⟩:∃ y,readE (N:Int) (vbB b)=y:=⟨_,rfl⟩;rw [hy] at hne ⊢;have hy0:(y != 0)=true:=by simpa using hne
     have HK6:=Lib.hid (HK5.out.trans hk6);have HBA:=Lib.hid (show readE (manyN b:Int) (vbB b) ≠ 0 from by rw [HMN.out];exact hbad);clear hne hk6 hy hbad;have HNO:=Lib.hid (show readTx b=none from readTx_bad (by rw [HVA.out];exact hV0) (.inr (.inr (.inr (.inr (.inr (.inr (.inr (.inr HBA.out)))))))))
     try clear hbad
     go_wp2_with fail;go_ret2;exact ⟨HK6.out,.inl ⟨HNO.out,_,rfl⟩⟩
    have HGB:=Lib.hid (show ¬ BadB b from fun h=>by
     rcases h with h | h | h | h | h | h | h | h | h
     ·rw [HVA.out] at h;omega
     ·rw [HVA.out] at h;omega
     ·rw [HN.out] at h;omega
     ·exact h HZ.out
     ·rw [HN.out,← HKS.out.2] at h;omega
     ·exact h HOK.out
     ·rw [HMM.out] at h;omega
     ·rw [HN.out,← HKS.out.2,HMN.out,HQQ.out] at h;omega
     ·rw [HMN.out] at h;exact h hz)
    have HVE:=Lib.hid (show RefV w6 S2 pv2 (LB b) from by unfold LB;rw [HMN.out];exact hvec);have HLL:=Lib.hid (show (LB b).length=N from by unfold LB;rw [bitsOf_len,HMN.out]);have HK6:=Lib.hid (HK5.out.trans hk6);replace HC:=Lib.hid (HC.out.kp0 hk6);have HHJ:=Lib.hid (Nat.le_trans HHI.out hk6.size)
    obtain ⟨AL,cL,hL1,hL2,hL3⟩:∃ (AL:Option Addr) (cL:Nat),w6.cell? ⟨pv2,0,none⟩=some (.slice AL N cL)∧Rd w6 w6.heap.size AL ((LB b).map .bool)∧N≤cL:=by
     obtain ⟨AL,cL,q1,q2,_⟩:=HVE.out;rw [HLL.out] at q1 q2;obtain ⟨_,_,he,hle,_⟩:=own_form q2;injection he with e1 e2 e3
     exact ⟨AL,cL,by rw [q1.cell];rfl,own_rd q2,by omega⟩
    have HLR:=Lib.hid hL2
    have hN24:N≤16777216:=by
     have h1:lenE (N:Int)=0:=by
      apply Classical.byContradiction
      intro h9;have h2:=readE_err (bs:=vbB b) h9;rw [h2] at hz;exact h9 hz
     have:=lenE_ok h1;omega
    obtain ⟨V',rfl⟩:∃ V':Nat,V=(V':Int):=⟨V.toNat,by omega⟩;have HVN:=Lib.hid (show (numA b 0).toNat=V' from by rw [HVA.out];rfl);have HSN:=Lib.hid (natN_sg (sgB b));clear hz hvec hS2 hk6 hL2 HVE HVR HVL HNV HX;go_wp2_with fail;refine (rfread_any wq.heap.size w4.heap.size p V' N cL AL (TB b) _ (lsB b) (LB b) w6 HC.out HLR.out HLL.out hL3 hN24 (fun k ts a hk h=>HFIT.out.all (by rw [HVA.out];omega) HGB.out k ts a (by rw [HVN.out];exact hk) h) (by omega) HHJ.out).mono ?_;rintro e w7 ⟨hk7,⟨hno,rfl⟩ | ⟨ts,f,At,Ab,As,ct,cb,cs,n',N',m',hyes,rfl,hrf⟩⟩
    ·have HK7:=Lib.hid (HK6.out.trans hk7);have HNO:=Lib.hid (show readTx b=none from by rw [readTx_go (by rw [HVA.out];omega) HGB.out,HVN.out];exact hno);clear hk7 hno;go_wp2_with fail;go_ret2;exact ⟨HK7.out,.inl ⟨HNO.out,_,rfl⟩⟩
    ·have HK7:=Lib.hid (HK6.out.trans hk7);have HYES:=Lib.hid (show readTx b=some ts from by rw [readTx_go (by rw [HVA.out];omega) HGB.out,HVN.out];exact hyes);have hf0:w7.cell? ⟨f,0,none⟩=some (.slice At n' ct):=hrf.cells.1;have HRT:=Lib.hid hrf.rt;have HNT:=Lib.hid hrf.nt;clear hk7 hyes hrf;go_wp2_with fail;go_ret2;exact ⟨HK7.out,.inr ⟨ts,At,n',ct,HYES.out,rfl,HRT.out,HNT.out⟩⟩
   ·have hcai:¬ (c:Int)=(a:Int)+4:=by omega
    go_wp2_with fail
    have HRDF:=Lib.hid (show Rd w5 B (some ⟨ad.block,ad.off+(a+4),none⟩) ((intsN (vbB b)).map (.int .u8)) from by
     have h1:=HVR.out;unfold Addr.add at h1;rw [if_neg (by omega)] at h1
     exact h1)
    refine (rbread_any (N:Int) (some ⟨ad.block,ad.off+(a+4),none⟩) Q (c - (a+4)) B (vbB b) w5 HRDF.out HVL.out (by omega) HNV.out).mono ?_;rintro e w6 ⟨hk6,⟨hne,rfl⟩ | ⟨hz,S2,pv2,rfl,hvec,hS2⟩⟩
    ·have hbad:=hne;obtain ⟨y,hy⟩:∃ y,readE (N:Int) (vbB b)=y:=⟨_,rfl⟩;rw [hy] at hne ⊢;have hy0:(y != 0)=true:=by simpa using hne
     have HK6:=Lib.hid (HK5.out.trans hk6);have HBA:=Lib.hid (show readE (manyN b:Int) (vbB b) ≠ 0 from by rw [HMN.out];exact hbad);clear hne hk6 hy hbad;have HNO:=Lib.hid (show readTx b=none from readTx_bad (by rw [HVA.out];exact hV0) (.inr (.inr (.inr (.inr (.inr (.inr (.inr (.inr HBA.out)))))))))
     try clear hbad
     go_wp2_with fail;go_ret2;exact ⟨HK6.out,.inl ⟨HNO.out,_,rfl⟩⟩
    have HGB:=Lib.hid (show ¬ BadB b from fun h=>by
     rcases h with h | h | h | h | h | h | h | h | h
     ·rw [HVA.out] at h;omega
     ·rw [HVA.out] at h;omega
     ·rw [HN.out] at h;omega
     ·exact h HZ.out
     ·rw [HN.out,← HKS.out.2] at h;omega
     ·exact h HOK.out
     ·rw [HMM.out] at h;omega
     ·rw [HN.out,← HKS.out.2,HMN.out,HQQ.out] at h;omega
     ·rw [HMN.out] at h;exact h hz)
    have HVE:=Lib.hid (show RefV w6 S2 pv2 (LB b) from by unfold LB;rw [HMN.out];exact hvec);have HLL:=Lib.hid (show (LB b).length=N from by unfold LB;rw [bitsOf_len,HMN.out]);have HK6:=Lib.hid (HK5.out.trans hk6);replace HC:=Lib.hid (HC.out.kp0 hk6);have HHJ:=Lib.hid (Nat.le_trans HHI.out hk6.size)
    obtain ⟨AL,cL,hL1,hL2,hL3⟩:∃ (AL:Option Addr) (cL:Nat),w6.cell? ⟨pv2,0,none⟩=some (.slice AL N cL)∧Rd w6 w6.heap.size AL ((LB b).map .bool)∧N≤cL:=by
     obtain ⟨AL,cL,q1,q2,_⟩:=HVE.out;rw [HLL.out] at q1 q2;obtain ⟨_,_,he,hle,_⟩:=own_form q2;injection he with e1 e2 e3
     exact ⟨AL,cL,by rw [q1.cell];rfl,own_rd q2,by omega⟩
    have HLR:=Lib.hid hL2
    have hN24:N≤16777216:=by
     have h1:lenE (N:Int)=0:=by
      apply Classical.byContradiction
      intro h9;have h2:=readE_err (bs:=vbB b) h9;rw [h2] at hz;exact h9 hz
     have:=lenE_ok h1;omega
    obtain ⟨V',rfl⟩:∃ V':Nat,V=(V':Int):=⟨V.toNat,by omega⟩;have HVN:=Lib.hid (show (numA b 0).toNat=V' from by rw [HVA.out];rfl);have HSN:=Lib.hid (natN_sg (sgB b));clear hz hvec hS2 hk6 hL2 HVE HVR HVL HNV HX;go_wp2_with fail;refine (rfread_any wq.heap.size w4.heap.size p V' N cL AL (TB b) _ (lsB b) (LB b) w6 HC.out HLR.out HLL.out hL3 hN24 (fun k ts a hk h=>HFIT.out.all (by rw [HVA.out];omega) HGB.out k ts a (by rw [HVN.out];exact hk) h) (by omega) HHJ.out).mono ?_;rintro e w7 ⟨hk7,⟨hno,rfl⟩ | ⟨ts,f,At,Ab,As,ct,cb,cs,n',N',m',hyes,rfl,hrf⟩⟩
    ·have HK7:=Lib.hid (HK6.out.trans hk7);have HNO:=Lib.hid (show readTx b=none from by rw [readTx_go (by rw [HVA.out];omega) HGB.out,HVN.out];exact hno);clear hk7 hno;go_wp2_with fail;go_ret2;exact ⟨HK7.out,.inl ⟨HNO.out,_,rfl⟩⟩
    ·have HK7:=Lib.hid (HK6.out.trans hk7);have HYES:=Lib.hid (show readTx b=some ts from by rw [readTx_go (by rw [HVA.out];omega) HGB.out,HVN.out];exact hyes);have hf0:w7.cell? ⟨f,0,none⟩=some (.slice At n' ct):=hrf.cells.1;have HRT:=Lib.hid hrf.rt;have HNT:=Lib.hid hrf.nt;clear hk7 hyes hrf;go_wp2_with fail;go_ret2;exact ⟨HK7.out,.inr ⟨ts,At,n',ct,HYES.out,rfl,HRT.out,HNT.out⟩⟩
end Go.Proofs.YtanacapkfllbnaaGreatDoor
