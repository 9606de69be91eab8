/-
  PLAIN MATHEMATICS OF LAYER 6, fifth part: texts stand as their bytes do; texts put one behind the other are got again.
  PLAIN MATHEMATICS OF LAYER 12: texts in buckets: what two texts have alike, a text's piece, the bits of texts; what is read of them.
  LAYER 12 (front): what two texts have alike; do texts rise.
  LAYER 12 (front): the next text out of a reader.
  LAYER 12 (front): Of: the front of texts, by a code.
  LAYER 12 (front): Of, the walk.
  LAYER 12 (front): how many texts, where the buckets begin, the bits.
  LAYER 12 (front): walk: the texts of a bucket, one by one, as long as it is told to.
  LAYER 12 (front): walk, the proof.
  LAYER 12 (front): Text: a text by its place.
  Plain law of layer 12: texts read from bits, one behind the other.
  LAYER 6's REFERENCE: Word, Bits, at.
  LAYER 6's REFERENCE: Bits: a text's words.
  LAYER 6's REFERENCE: Get: a text out of the document's reader's bits.
  CONDITIONS: as each lemma says.
-/
import Derived.Test.YtanacapkfllbnaaGreatDoorR40
import Derived.Test.YtanacapkfllbnaaGreatDoorR37
import Derived.Test.YtanacapkfllbnaaGreatDoorR03
import Derived.Test.YtanacapkfllbnaaGreatDoorR11
import Derived.Test.YtanacapkfllbnaaGreatDoorR39
import Derived.Test.YtanacapkfllbnaaGreatDoorR32
import Derived.Test.YtanacapkfllbnaaGreatDoorR34
import Derived.Test.YtanacapkfllbnaaGreatDoorR19
import Derived.Test.YtanacapkfllbnaaGreatDoorR10
import Derived.Test.YtanacapkfllbnaaGreatDoorR35
import Derived.Lib.Strings
set_option maxRecDepth 100000
set_option maxHeartbeats 4000000
namespace Go.Proofs.YtanacapkfllbnaaGreatDoor

theorem toL (s:ByteArray):s.toList=s.data.toList:=ByteArray.toList_eq s
theorem lex_bytes:∀ (x y:List UInt8),Op.bytesLess x y=lexN (x.map UInt8.toNat) (y.map UInt8.toNat)
 | [],[]=>rfl
 | _ :: _,[]=>rfl
 | [],_ :: _=>rfl
 | a :: x,b :: y=>by
   rw [Op.bytesLess,lex_bytes x y]
   show _=(decide (a.toNat < b.toNat) || (decide (a.toNat=b.toNat) && lexN (x.map UInt8.toNat) (y.map UInt8.toNat)))
   have h1:decide (a < b)=decide (a.toNat < b.toNat):=by simp [UInt8.lt_iff_toNat_lt]
   have h2:(a == b)=decide (a.toNat=b.toNat):=by
    by_cases h:a=b
    ·subst h;simp
    ·have:a.toNat ≠ b.toNat:=fun e=>h (UInt8.toNat_inj.1 e)
     simp [h,this]
   rw [h1,h2]
theorem less_txt (s t:ByteArray):Op.bytesLess s.toList t.toList=lexN (txt s) (txt t):=by rw [toL,toL,lex_bytes];rfl
theorem txt_inj {s t:ByteArray} (h:txt s=txt t):s=t:=by
 unfold txt at h
 have h2:s.data.toList=t.data.toList:=by
  have inj:∀ (x y:List UInt8),x.map UInt8.toNat=y.map UInt8.toNat→x=y:=by
   intro x
   induction x with
   | nil=>intro y h;cases y with
     | nil=>rfl
     | cons _ _=>simp at h
   | cons a x ih=>intro y h;cases y with
     | nil=>simp at h
     | cons b y =>
       simp only [List.map_cons,List.cons.injEq] at h
       rw [UInt8.toNat_inj.1 h.1,ih y h.2]
  exact inj _ _ h
 cases s;cases t
 simp only at h2
 congr 1
 exact Array.toList_inj.1 h2
theorem strN_txt (s:ByteArray):strN (txt s)=s:=by
 have e:∀ l:List UInt8,(l.map UInt8.toNat).map UInt8.ofNat=l:=by
  intro l
  induction l with
  | nil=>rfl
  | cons a l ih=>simp only [List.map_cons,ih,UInt8.ofNat_toNat]
 cases s with
 | mk d =>
   unfold strN txt;rw [e]
theorem put_text {T:CT} {s:ByteArray} {r L:List Bool} (hr:encT T s=some r) (hl:L.length+r.length≤16777216):putE T s (L,0)=0∧putS T s (L,0)=(L ++ r,0):=by
 unfold putE putS wPut;rw [hr];simp only
 rw [if_neg (by simp),if_neg (by omega)];exact ⟨rfl,rfl⟩
def alikeN:List Nat→List Nat→Nat
 | a :: x,b :: y=>if a=b then alikeN x y+1 else 0
 | _,_=>0
theorem alikeN_left (l:List Nat):alikeN [] l=0:=by cases l <;> rfl
theorem alikeN_right (l:List Nat):alikeN l []=0:=by cases l <;> rfl
theorem alike_step {a b:List Nat} {k x y:Nat} (h1:a[k]? = some x) (h2:b[k]? = some y):alikeN (a.drop k) (b.drop k)=if x=y then alikeN (a.drop (k+1)) (b.drop (k+1))+1 else 0:=by
 obtain ⟨l1,rfl⟩:=List.getElem?_eq_some_iff.1 h1;obtain ⟨l2,rfl⟩:=List.getElem?_eq_some_iff.1 h2;rw [List.drop_eq_getElem_cons l1,List.drop_eq_getElem_cons l2];rfl
theorem alikeN_le:∀ (a b:List Nat),alikeN a b≤a.length∧alikeN a b≤b.length∧a.take (alikeN a b)=b.take (alikeN a b)
 | [],b=>by rw [alikeN_left];simp
 | a :: x,[]=>by rw [alikeN_right];simp
 | a :: x,b :: y=>by
   obtain ⟨h1,h2,h3⟩:=alikeN_le x y;unfold alikeN
   split
   ·rename_i h
    subst h;exact ⟨by rw [List.length_cons];omega,by rw [List.length_cons];omega,by rw [List.take_succ_cons,List.take_succ_cons,h3]⟩
   ·simp
theorem alikeN_join (a t:List Nat):a.take (alikeN a t) ++ t.drop (alikeN a t)=t:=by rw [(alikeN_le a t).2.2,List.take_append_drop]
theorem sgs_drop (t:List Nat) (k:Nat):sgs t=(t.take k).map (· + 1) ++ sgs (t.drop k):=by
 unfold sgs;rw [← List.append_assoc,← List.map_append,List.take_append_drop]
theorem enc_rest {T:CT} {t:List Nat} {r:List Bool} (h:T.enc (sgs t)=some r) (k:Nat):∃ u v,T.enc (sgs (t.drop k))=some v∧r=u ++ v:=by
 rw [sgs_drop t k,enc_app] at h
 cases h1:T.enc ((t.take k).map (· + 1)) with
 | none=>rw [h1] at h;cases h
 | some u =>
   rw [h1] at h;simp only [Option.bind_some] at h
   cases h2:T.enc (sgs (t.drop k)) with
   | none=>rw [h2] at h;cases h
   | some v =>
     rw [h2] at h;injection h with h
     exact ⟨u,v,rfl,h.symm⟩
def encD (T:CT) (t:List Nat) (k:Nat):List Bool:=(T.enc (sgs (t.drop k))).getD []
def pieceF (T:CT) (k:Nat) (ahead t:List Nat):List Bool:=if k % 8=0 then encD T t 0 else gamL (alikeN ahead t+1) ++ encD T t (alikeN ahead t)
def frontL (T:CT):Nat→List Nat→List (List Nat)→List Bool
 | _,_,[]=>[]
 | k,a,t :: l=>pieceF T k a t ++ frontL T (k+1) t l
theorem frontL_cons (T:CT) (k:Nat) (a t:List Nat) (l:List (List Nat)):frontL T k a (t :: l)=pieceF T k a t ++ frontL T (k+1) t l:=rfl
theorem frontL_nil (T:CT) (k:Nat) (a:List Nat):frontL T k a []=[]:=rfl
theorem frontL_snoc (T:CT) (t:List Nat):∀ (l:List (List Nat)) (k:Nat) (a:List Nat),frontL T k a (l ++ [t])=frontL T k a l ++ pieceF T (k+l.length) (l.getLastD a) t
 | [],k,a=>by simp [frontL]
 | x :: l,k,a=>by
   rw [List.cons_append,frontL_cons,frontL_cons,frontL_snoc T t l (k+1) x,List.append_assoc,List.length_cons,show k+1+l.length=k+(l.length+1) by omega,List.getLastD_cons]
theorem frontL_app (T:CT) (m:List (List Nat)):∀ (l:List (List Nat)) (k:Nat) (a:List Nat),frontL T k a (l ++ m)=frontL T k a l ++ frontL T (k+l.length) (l.getLastD a) m
 | [],k,a=>by simp [frontL_nil]
 | x :: l,k,a=>by
   rw [List.cons_append,frontL_cons,frontL_cons,frontL_app T m l (k+1) x,List.append_assoc,List.length_cons,show k+1+l.length=k+(l.length+1) by omega,List.getLastD_cons]
def frontB (T:CT) (ss:List ByteArray):List Bool:=frontL T 0 [] (ss.map txt)
def prevT (ss:List ByteArray) (k:Nat):List Nat:=((ss.take k).map txt).getLastD []
theorem frontB_next (T:CT) {ss:List ByteArray} {k:Nat} {s:ByteArray} (h:ss[k]? = some s):frontB T (ss.take (k+1))=frontB T (ss.take k) ++ pieceF T k (prevT ss k) (txt s):=by
 have hk:=(List.getElem?_eq_some_iff.1 h).1;unfold frontB prevT;rw [take_snoc_ h,List.map_append,List.map_singleton,frontL_snoc,List.length_map,List.length_take,Nat.min_eq_left (by omega),Nat.zero_add]
theorem prevT_succ {ss:List ByteArray} {k:Nat} {s:ByteArray} (h:ss[k]? = some s):prevT ss (k+1)=txt s:=by
 unfold prevT;rw [take_snoc_ h,List.map_append,List.map_singleton]
 simp
theorem frontB_drop (T:CT) {ss:List ByteArray} {k:Nat} {s:ByteArray} (h:ss[k]? = some s):∃ rest,(frontB T ss).drop (frontB T (ss.take k)).length=pieceF T k (prevT ss k) (txt s) ++ rest:=by
 have e:frontB T ss=frontB T (ss.take (k+1)) ++ frontL T (0+((ss.take (k+1)).map txt).length) (((ss.take (k+1)).map txt).getLastD []) ((ss.drop (k+1)).map txt):=by
  unfold frontB;rw [← frontL_app,← List.map_append,List.take_append_drop]
 rw [e,frontB_next T h,List.append_assoc,List.drop_left];exact ⟨_,rfl⟩
theorem frontB_mono (T:CT) (ss:List ByteArray) (k:Nat):(frontB T (ss.take k)).length≤(frontB T ss).length:=by
 have e:frontB T ss=frontB T (ss.take k) ++ frontL T (0+((ss.take k).map txt).length) (((ss.take k).map txt).getLastD []) ((ss.drop k).map txt):=by
  unfold frontB;rw [← frontL_app,← List.map_append,List.take_append_drop]
 rw [e,List.length_append];omega
def startsN (T:CT) (ss:List ByteArray):List Nat:=(List.range ((ss.length+7) / 8)).map fun b=>(frontB T (ss.take (8 * b))).length
def gamR (L:List Bool) (a:Nat) (bad first:Bool):Int × Nat × Bool:=if first then (0,a,bad) else (((rGam L a bad).1:Int) - 1,(rGam L a bad).2.1,(rGam L a bad).2.2)
def nextF (T:CT) (L:List Bool) (a:Nat) (bad:Bool) (ahead:List Nat) (first:Bool):(List Nat × Int) × (Nat × Bool):=
 if (gamR L a bad first).2.2=true ∨ (ahead.length:Int) < (gamR L a bad first).1 then (([],4),((gamR L a bad first).2.1,(gamR L a bad first).2.2))
 else ((ahead.take (gamR L a bad first).1.toNat ++ (getF T L (gamR L a bad first).2.1 false).1,(getF T L (gamR L a bad first).2.1 false).2.1),((gamR L a bad first).2.1+(getF T L (gamR L a bad first).2.1 false).2.2.1,(getF T L (gamR L a bad first).2.1 false).2.2.2))
theorem getF_enc {T:CT} {sg:List Nat} {ls:List Int} (h:CodeT T sg ls) {L:List Bool} {a:Nat} {t:List Nat} {r rest:List Bool} (hr:T.enc (sgs t)=some r) (hd:L.drop a=r ++ rest):getF T L a false=(t,0,r.length,false):=by
 unfold getF;rw [if_neg (by simp),hd];have:=getC_enc h t [] r rest hr;simpa using this
theorem next_back {T:CT} {sg:List Nat} {ls:List Int} (h:CodeT T sg ls) {L:List Bool} {a k:Nat} {ahead t:List Nat} {r rest:List Bool} (hr:T.enc (sgs t)=some r) (hd:L.drop a=pieceF T k ahead t ++ rest) (hl:t.length < 1000000000) :
  nextF T L a false ahead (decide (k % 8=0))=((t,0),(a+(pieceF T k ahead t).length,false)):=by
 by_cases hk:k % 8=0
 ·rw [decide_eq_true hk];unfold pieceF at hd ⊢;rw [if_pos hk] at hd ⊢;have e0:encD T t 0=r:=by unfold encD;rw [List.drop_zero,hr];rfl
  rw [e0] at hd ⊢;have hg:=getF_enc h hr hd;have hgm:gamR L a false true=(0,a,false):=rfl;unfold nextF;rw [hgm];simp only
  rw [if_neg (by simp),hg]
  simp
 ·rw [decide_eq_false hk];unfold pieceF at hd ⊢;rw [if_neg hk] at hd ⊢;obtain ⟨_,v,hv,_⟩:=enc_rest hr (alikeN ahead t);have e0:encD T t (alikeN ahead t)=v:=by unfold encD;rw [hv];rfl
  rw [e0] at hd ⊢;have hal:=alikeN_le ahead t
  have hb:=rGam_back (L:=L) (a:=a) (x:=alikeN ahead t+1) (r:=v ++ rest) (by rw [hd,List.append_assoc]) (by have:(1000000001:Nat) < 2 ^ 60:=by decide
                                                                                                           omega) (by omega)
  have hd2:L.drop (a+(gamL (alikeN ahead t+1)).length)=v ++ rest:=by rw [← List.drop_drop,hd,List.append_assoc,List.drop_left]
  have hg:=getF_enc h hv hd2;have hgm:gamR L a false false=(((alikeN ahead t+1:Nat):Int) - 1,a+(gamL (alikeN ahead t+1)).length,false):=by unfold gamR;rw [if_neg (by simp),hb]
  unfold nextF;rw [hgm];simp only
  rw [if_neg (by simp;omega),hg];simp only [List.length_append]
  rw [show (((alikeN ahead t+1:Nat):Int) - 1).toNat=alikeN ahead t by omega,alikeN_join,Nat.add_assoc]
end Go.Proofs.YtanacapkfllbnaaGreatDoor
namespace Go.Proofs.YtanacapkfllbnaaGreatDoor
open Go.RowKit

theorem txt_extract (s:ByteArray) (a b:Nat):txt (s.extract a b)=((txt s).drop a).take (b - a):=by
 unfold txt;rw [Lib.extract_data,List.map_take,List.map_drop]
theorem txt_tail (s:ByteArray) (a:Nat):txt (s.extract a s.size)=(txt s).drop a:=by
 rw [txt_extract,List.take_of_length_le (by rw [List.length_drop,txt_len];exact Nat.le_refl _)]
theorem falike_any (s t:ByteArray) (w:World) (hs:s.size≤1000000000) (_ht:t.size≤1000000000) :
  Calls Tryz.prog 61 #[.string s,.string t] w fun e w'=>e=.returned (.int .i64 ((alikeN (txt s) (txt t):Nat):Int))∧Dr w w':=by
 obtain ⟨mm,hmm⟩:∃ mm:Nat,mm=min s.size t.size:=⟨_,rfl⟩;have HMM:=Lib.hid (show min (s.size:Int) (t.size:Int)=(mm:Int) from by rw [hmm];omega);have hms:mm≤s.size:=by omega
 have hmt:mm≤t.size:=by omega
 have HME:=Lib.hid (show mm=s.size ∨ mm=t.size from by omega);clear hmm
 go_enter Tryz.func61,Tryz.ntmps61
 go_wp2_with fail
 go_loopw [4] (fun i wr=>∃ k:Nat,i=.int .i64 (k:Int)∧k≤mm∧Hid (alikeN (txt s) (txt t)=alikeN ((txt s).drop k) ((txt t).drop k)+k)∧Dr w wr) (fun i _=>mm - (intOf i).toNat)
 case atStart=>exact ⟨0,rfl,by omega,Lib.hid rfl,Dr.refl w⟩
 case round =>
  obtain ⟨k,rfl,hk,HE,hd⟩:=hrel;have hk0:(0:Int)≤(k:Int):=by omega
  by_cases hlt:k < mm
  ·have hks:k < s.size:=by omega
   have hkt:k < t.size:=by omega
   have HX:=Lib.hid (txt_get s k hks);have HY:=Lib.hid (txt_get t k hkt);obtain ⟨x,hx⟩:∃ x,s[k].toNat=x:=⟨_,rfl⟩;obtain ⟨y,hy⟩:∃ y,t[k].toNat=y:=⟨_,rfl⟩;have hkm:(k:Int) < (mm:Int):=by omega
   have hk1:(k:Int) < (s.size:Int):=by omega
   have hk2:(k:Int) < (t.size:Int):=by omega
   have HST:=Lib.hid (alike_step (show (txt s)[k]? = some x from by rw [HX.out,hx]) (show (txt t)[k]? = some y from by rw [HY.out,hy]));clear HX HY;by_cases hxy:x=y
   ·subst hxy;have HE2:=Lib.hid (show alikeN (txt s) (txt t)=alikeN ((txt s).drop (k+1)) ((txt t).drop (k+1))+(k+1) from by rw [HE.out,HST.out,if_pos rfl];omega);have hmin:=HMM.out;clear HE HST;go_wp2_with fail
    go_quiet (fail)
    go_wp2_with fail;exact ⟨⟨k+1,by go_num,by omega,HE2,hd.drewN _⟩,by simp [intOf];omega⟩
   ·have HE2:=Lib.hid (show alikeN (txt s) (txt t)=k from by rw [HE.out,HST.out,if_neg hxy];omega);have hmin:=HMM.out
    have hxy2:((x:Int) == (y:Int))=false:=by
     have:(x:Int) ≠ (y:Int):=by omega
     simpa using this
    clear HE HST;go_wp2_with fail
    go_quiet (fail)
    go_wp2_with fail;go_ret;exact ⟨by rw [HE2.out];rfl,hd.drewN _⟩
  ·obtain rfl:k=mm:=by omega
   have HE2:=Lib.hid (show alikeN (txt s) (txt t)=k from by
    rw [HE.out];rcases HME.out with h | h
    ·rw [List.drop_of_length_le (show (txt s).length≤k by rw [txt_len];omega),alikeN_left,Nat.zero_add]
    ·rw [List.drop_of_length_le (show (txt t).length≤k by rw [txt_len];omega),alikeN_right,Nat.zero_add])
   have hmin:=HMM.out;clear HE;go_wp2_with fail
   go_quiet (fail)
   go_wp2_with fail;go_ret;exact ⟨by rw [HE2.out];rfl,hd.drewN _⟩
def riseT:List ByteArray→Bool
 | s :: t :: l=>lexN (txt s) (txt t) && riseT (t :: l)
 | _=>true
theorem riseT_iff:∀ (l:List ByteArray),riseT l=true ↔ ∀ i s t,l[i]? = some s→l[i+1]? = some t→lexN (txt s) (txt t)=true
 | []=>by simp [riseT]
 | [s]=>by simp [riseT]
 | s :: t :: l=>by
   unfold riseT;rw [Bool.and_eq_true,riseT_iff (t :: l)]
   constructor
   ·rintro ⟨h1,h2⟩ i x y hx hy
    cases i with
    | zero =>
      simp at hx hy
      subst hx hy;exact h1
    | succ i=>exact h2 i x y (by simpa using hx) (by simpa using hy)
   ·intro h;exact ⟨h 0 s t rfl rfl,fun i x y hx hy=>h (i+1) x y (by simpa using hx) (by simpa using hy)⟩
theorem frising_any (A:Option Addr) (n c B:Nat) (ss:List ByteArray) (w:World) (hx:Rd w B A (ss.map .string)) (hn:ss.length=n) (hb:n≤1000000000) :
  Calls Tryz.prog 63 #[.slice A n c] w fun e w'=>e=.returned (.bool (riseT ss))∧w=w':=by
 have HX:=Lib.hid hx;clear hx;have HN:=Lib.hid hn;clear hn
 go_enter Tryz.func63,Tryz.ntmps63
 go_wp2_with fail
 go_loopw [7] (fun i wr=>∃ k:Nat,i=.int .i64 (k:Int)∧k≤n∧Hid (∀ i s t,i+1 < k→ss[i]? = some s→ss[i+1]? = some t→lexN (txt s) (txt t)=true)∧w=wr) (fun i _=>n - (intOf i).toNat)
 case atStart=>exact ⟨0,rfl,by omega,Lib.hid (fun i s t h=>by omega),rfl⟩
 case round =>
  obtain ⟨k,rfl,hk,HA,rfl⟩:=hrel;by_cases hlt:k < n
  ·obtain ⟨t,ad,ht,rfl,_,hct⟩:=HX.out.str (k:=k) (by rw [HN.out];exact hlt);have hk0:(0:Int)≤(k:Int):=by omega
   have hk1:(k:Int) < (n:Int):=by omega
   by_cases hz:k=0
   ·subst hz;have hct0:=hct;rw [show ad.add 0=ad from by simp [Addr.add]] at hct0;go_wp2_with fail;exact ⟨⟨1,by go_num,by omega,Lib.hid (fun i s t h=>by omega),trivial⟩,by simp [intOf];omega⟩
   ·obtain ⟨j,rfl⟩:∃ j,k=j+1:=⟨k - 1,by omega⟩;obtain ⟨s,ad',hs,e',_,hcs⟩:=HX.out.str (k:=j) (by rw [HN.out];omega);injection e' with e'
    subst e';have hctp:w.cell? ⟨ad.block,ad.off+(j+1),none⟩=some (.string t):=hct;have hb0:(0:Int)≤(j:Int):=by omega
    have hb1:(j:Int) < (n:Int):=by omega
    have hb2:(j:Int)+1 < (n:Int):=by omega
    have HLT:=Lib.hid (less_txt s t);have HS:=Lib.hid hs;have HT:=Lib.hid ht;clear hct hs ht hz
    cases hx:lexN (txt s) (txt t) with
    | true =>
      have hl:Op.bytesLess s.toList t.toList=true:=by rw [HLT.out,hx]
      have HA2:=Lib.hid (show ∀ i s t,i+1 < j+1+1→ss[i]? = some s→ss[i+1]? = some t→lexN (txt s) (txt t)=true from fun i s' t' hi h1 h2=>by
       by_cases hij:i=j
       ·subst hij;rw [HS.out] at h1;rw [HT.out] at h2;injection h1 with h1
        injection h2 with h2
        subst h1 h2;exact hx
       ·exact HA.out i s' t' (by omega) h1 h2)
      clear hx;go_wp2_with fail;exact ⟨⟨j+1+1,by go_num,by omega,HA2,trivial⟩,by simp [intOf];omega⟩
    | false =>
      have hl:Op.bytesLess s.toList t.toList=false:=by rw [HLT.out,hx]
      have HE:=Lib.hid (show riseT ss=false from by
       cases h:riseT ss with
       | false=>rfl
       | true=>rw [(riseT_iff ss).1 h j s t HS.out HT.out] at hx;cases hx)
      clear hx;go_wp2_with fail;go_ret;exact ⟨by rw [HE.out];rfl,rfl⟩
  ·obtain rfl:k=n:=by omega
   have HE:=Lib.hid (show riseT ss=true from (riseT_iff ss).2 (fun i s t h1 h2=>HA.out i s t (by rw [← HN.out];exact (List.getElem?_eq_some_iff.1 h2).1) h1 h2));go_wp2_with fail;go_ret;exact ⟨by rw [HE.out];rfl,rfl⟩
theorem strN_of {s:ByteArray} {l:List Nat} (h:txt s=l):s=strN l:=by rw [← h,strN_txt]
theorem strN_app (a b:List Nat):strN (a ++ b)=strN a ++ strN b:=by
 unfold strN;rw [List.map_append]
 apply ByteArray.ext
 rw [ByteArray.data_append]
 simp
theorem strN_size (l:List Nat):(strN l).size=l.length:=by
 show (l.map UInt8.ofNat).toArray.size=_
 simp
theorem getC_out (T:CT):∀ (l:List Bool) (cur:CT) (o:List Nat),(getC T cur o l).1.length≤o.length+l.length
 | [],cur,o=>by rw [getC_nil];simp
 | b :: l,cur,o=>by
   cases hk:cur.kid b with
   | nil=>rw [getC_none hk];simp
   | leaf s =>
     cases s with
     | zero=>rw [getC_end hk];simp
     | succ s =>
       rw [getC_leaf hk];have:=getC_out T l T (o ++ [s]);simp only [List.length_append,List.length_cons,List.length_nil] at this ⊢
       omega
   | node x y =>
     rw [getC_node hk];have:=getC_out T l (.node x y) o;simp only [List.length_cons] at this ⊢
     omega
theorem getF_out (T:CT) (L:List Bool) (a:Nat):(getF T L a false).1.length≤L.length:=by
 unfold getF;rw [if_neg (by simp)];have:=getC_out T (L.drop a) T [];rw [List.length_drop] at this
 simp at this ⊢
 omega
def NextP (rp q:Nat) (S:List Nat) (L:List Bool) (F:(List Nat × Int) × (Nat × Bool)) (w:World) (e:Ending) (w':World):Prop:=
 e=.returned (.tuple #[.string (strN F.1.1),.int .i64 F.1.2])∧RdM w' rp q F.2.1 F.2.2∧∃ S' c',VecM w' S' q L c'∧Kp (rp :: S) w w'∧Grow w S S'
theorem next_any (lo hi f p rp q a N:Nat) (S:List Nat) (bad cc first:Bool) (L:List Bool) (T:CT) (sg:List Nat) (ls:List Int) (s:ByteArray) (w:World) (hf:w.cell? ⟨f,0,none⟩=some (.pointer (some ⟨p,0,none⟩))) (h:CodeM w lo hi p T sg ls) (hr:RdM w rp q a bad) (hv:VecM w S q L cc) (hN:L.length=N) (ha:a≤N) (hrS:rp ∉ S) (hhi:hi≤rp) (hS:∀ g ∈ S,g < lo ∨ hi≤g) (hfS:f ∉ S) (hfr:f ≠ rp) (hs:s.size≤1000000) (ht:Tab64 w) (h0:0 ∉ S) (h0p:0 ≠ rp) :
  Calls Tryz.prog 137 #[.pointer (some ⟨f,0,none⟩),.pointer (some ⟨rp,0,none⟩),.string s,.bool first] w (NextP rp q S L (nextF T L a bad (txt s) first) w):=by
 have hN16:N≤16777216:=by rw [← hN];exact hv.tail.2.2.2
 have HC:=Lib.hid h;have HR:=Lib.hid hr;have HV:=Lib.hid hv;have HN:=Lib.hid hN;have HRS:=Lib.hid hrS;have HS:=Lib.hid hS;have HF:=Lib.hid hf;have HFS:=Lib.hid (show f ∉ rp :: S from fun hm=>(List.mem_cons.1 hm).elim hfr hfS);have HCS:=Lib.hid (show ∀ g ∈ rp :: S,g < lo ∨ hi≤g from fun g hg=>(List.mem_cons.1 hg).elim (fun e=>.inr (by omega)) (hS g));have HT:=Lib.hid ht;have H0:=Lib.hid h0;have hrw:rp < w.heap.size:=Blk.lt hr;clear h hr hv hN hrS hS hf ht h0 hfS
 cases first with
 | true =>
   obtain ⟨a2,ha2⟩:∃ a2,a2=a:=⟨_,rfl⟩;obtain ⟨bad2,hb2⟩:∃ bad2,bad2=bad:=⟨_,rfl⟩;have GR:=Lib.hid (show gamR L a bad true=(0,a2,bad2) from by rw [ha2,hb2];rfl);have HR2:=HR;rw [← ha2,← hb2] at HR2;have HA2:=Lib.hid (show a2≤N by omega);clear ha2 hb2;obtain ⟨w2,rfl⟩:∃ w2,w2=w:=⟨_,rfl⟩;obtain ⟨S2,rfl⟩:∃ S2,S2=S:=⟨_,rfl⟩;obtain ⟨c2,rfl⟩:∃ c2,c2=cc:=⟨_,rfl⟩;have HV2:=HV;have HK2:=Lib.hid (Kp.refl (rp :: S2) w2);have HG2:=Lib.hid (Grow.refl w2 S2)
   go_enter Tryz.func137,Tryz.ntmps137
   go_wp2_with fail;refine (rerr_any rp q a2 bad2 w2 HR2.out).mono ?_;rintro e w3 ⟨rfl,rfl⟩
   cases bad2 with
   | true =>
     rw [show errB true=4 from rfl];have HNF:=Lib.hid (show nextF T L a bad (txt s) true=(([],4),(a2,true)) from by unfold nextF;rw [GR.out];simp only;rw [if_pos (.inl trivial)]);go_wp2_with fail;go_ret2;rw [HNF.out];exact ⟨rfl,HR2.out,S2,c2,HV2.out,HK2.out,HG2.out⟩
   | false =>
     rw [show errB false=0 from rfl];by_cases hbig:(s.size:Int) < 0
     ·have HNF:=Lib.hid (show nextF T L a bad (txt s) true=(([],4),(a2,false)) from by unfold nextF;rw [GR.out];simp only;rw [if_pos (.inr (by rw [txt_len];exact hbig))]);go_wp2_with fail;go_ret2;rw [HNF.out];exact ⟨rfl,HR2.out,S2,c2,HV2.out,HK2.out,HG2.out⟩
     ·obtain ⟨k,hk⟩:∃ k:Nat,k=(0:Int).toNat:=⟨_,rfl⟩;have hks:k≤s.size:=by omega
      have hks2:(k:Int)≤(s.size:Int):=by omega
      have hmax:max (0:Int) 0=(k:Int):=by omega
      have HNF:=Lib.hid (show nextF T L a bad (txt s) true=(((txt s).take k ++ (getF T L a2 false).1,(getF T L a2 false).2.1),(a2+(getF T L a2 false).2.2.1,(getF T L a2 false).2.2.2)) from by
       unfold nextF;rw [GR.out];simp only
       rw [if_neg (by simp only [Bool.false_eq_true,false_or];rw [txt_len];exact hbig),hk])
      have hf2:=HK2.out.cell HF.out HFS.out;have HOL:=Lib.hid (getF_out T L a2);have HRS2:=Lib.hid (show rp ∉ S2 from fun hm=>(HG2.out rp hm).elim HRS.out (fun h=>by omega));clear hk;go_wp2_with fail;refine (cget_any lo hi p rp q a2 N S2 false c2 L T sg ls w2 (HC.out.kp HK2.out HCS.out) HR2.out HV2.out HN.out HA2.out HRS2.out hN16 hhi).mono ?_;intro e w4 hg;obtain ⟨F,hF⟩:∃ F,F=getF T L a2 false:=⟨_,rfl⟩;rw [← hF] at hg HNF HOL;clear hF;obtain ⟨ob,er,na,bad4⟩:=F;unfold GetP at hg
      dsimp only at hg HNF HOL
      obtain ⟨rfl,hr4,hk4⟩:=hg;have HR4:=Lib.hid hr4;have HV4:=Lib.hid (HV2.out.kp hk4 (fun g hg hm=>HRS2.out (by rw [← List.mem_singleton.1 hm];exact hg)));have HK4:=Lib.hid (HK2.out.trans (hk4.mono (by intro x hx;simp only [List.mem_singleton] at hx;subst hx;simp)));obtain ⟨st,hst⟩:∃ st,st=strN ob:=⟨_,rfl⟩;rw [← hst];have hsz:st.size≤16777216:=by rw [hst,strN_size];have:=HOL.out;have:=HN.out;omega
      have hex:(s.extract 0 k).size≤1000000:=by
       rw [← txt_len,txt_extract,List.length_take];have:=txt_len s;rw [List.drop_zero];omega
      have HSS:=Lib.hid (show s.extract 0 k ++ st=strN ((txt s).take k ++ ob) from by
       rw [strN_app,hst,strN_of (show txt (s.extract 0 k)=(txt s).take k from by rw [txt_extract,List.drop_zero,Nat.sub_zero])])
      clear hr4 hk4 hst hf2;go_wp2_with fail;go_ret2;rw [HNF.out,HSS.out];exact ⟨rfl,HR4.out,S2,c2,HV4.out,HK4.out,HG2.out⟩
 | false =>
   go_enter Tryz.func137,Tryz.ntmps137
   go_wp2_with fail;refine (rgam_any S rp q a N bad L cc w HR.out HV.out HN.out ha HRS.out HT.out H0.out h0p).mono ?_;rintro e w2 ⟨rfl,hr2,S2,c2,hv2,hk2,hg2⟩;obtain ⟨g,hg⟩:∃ g,g=(rGam L a bad).1:=⟨_,rfl⟩;obtain ⟨a2,ha2⟩:∃ a2,a2=(rGam L a bad).2.1:=⟨_,rfl⟩;obtain ⟨bad2,hb2⟩:∃ bad2,bad2=(rGam L a bad).2.2:=⟨_,rfl⟩;have GR:=Lib.hid (show gamR L a bad false=((g:Int) - 1,a2,bad2) from by rw [hg,ha2,hb2];rfl);have HA2:=Lib.hid (show a2≤N from by rw [ha2,← HN.out];exact rGam_le (by rw [HN.out];exact ha))
   have hgb:g≤2305843009213693952:=by
    rw [hg];unfold rGam
    split
    ·simp
    ·split
     ·simp
     ·rename_i h1 h2
      have h3:=valL_lt ((L.drop (a+zer (L.drop a))).take (zer (L.drop a)+1));have h4:((L.drop (a+zer (L.drop a))).take (zer (L.drop a)+1)).length≤60:=by rw [List.length_take];omega
      have h5:=Nat.pow_le_pow_right (show 1≤2 by omega) h4;have h6:(2:Nat) ^ 60≤2305843009213693952:=by decide
      simp only
      omega
   rw [← hg];rw [← ha2,← hb2] at hr2;have HR2:=Lib.hid hr2;have HV2:=Lib.hid hv2;have HK2:=Lib.hid hk2;have HG2:=Lib.hid hg2;clear hg ha2 hb2 hr2 hv2 hk2 hg2;have hg0:(0:Int)≤(g:Int):=by omega
   go_wp2_with fail;refine (rerr_any rp q a2 bad2 w2 HR2.out).mono ?_;rintro e w3 ⟨rfl,rfl⟩
   cases bad2 with
   | true =>
     rw [show errB true=4 from rfl];have HNF:=Lib.hid (show nextF T L a bad (txt s) false=(([],4),(a2,true)) from by unfold nextF;rw [GR.out];simp only;rw [if_pos (.inl trivial)]);go_wp2_with fail;go_ret2;rw [HNF.out];exact ⟨rfl,HR2.out,S2,c2,HV2.out,HK2.out,HG2.out⟩
   | false =>
     rw [show errB false=0 from rfl];by_cases hbig:(s.size:Int) < ((g:Int) - 1)
     ·have HNF:=Lib.hid (show nextF T L a bad (txt s) false=(([],4),(a2,false)) from by unfold nextF;rw [GR.out];simp only;rw [if_pos (.inr (by rw [txt_len];exact hbig))]);go_wp2_with fail;go_ret2;rw [HNF.out];exact ⟨rfl,HR2.out,S2,c2,HV2.out,HK2.out,HG2.out⟩
     ·obtain ⟨k,hk⟩:∃ k:Nat,k=(((g:Int) - 1):Int).toNat:=⟨_,rfl⟩;have hks:k≤s.size:=by omega
      have hks2:(k:Int)≤(s.size:Int):=by omega
      have hmax:max (((g:Int) - 1):Int) 0=(k:Int):=by omega
      have HNF:=Lib.hid (show nextF T L a bad (txt s) false=(((txt s).take k ++ (getF T L a2 false).1,(getF T L a2 false).2.1),(a2+(getF T L a2 false).2.2.1,(getF T L a2 false).2.2.2)) from by
       unfold nextF;rw [GR.out];simp only
       rw [if_neg (by simp only [Bool.false_eq_true,false_or];rw [txt_len];exact hbig),hk])
      have hf2:=HK2.out.cell HF.out HFS.out;have HOL:=Lib.hid (getF_out T L a2);have HRS2:=Lib.hid (show rp ∉ S2 from fun hm=>(HG2.out rp hm).elim HRS.out (fun h=>by omega));clear hk;go_wp2_with fail;refine (cget_any lo hi p rp q a2 N S2 false c2 L T sg ls w2 (HC.out.kp HK2.out HCS.out) HR2.out HV2.out HN.out HA2.out HRS2.out hN16 hhi).mono ?_;intro e w4 hg;obtain ⟨F,hF⟩:∃ F,F=getF T L a2 false:=⟨_,rfl⟩;rw [← hF] at hg HNF HOL;clear hF;obtain ⟨ob,er,na,bad4⟩:=F;unfold GetP at hg
      dsimp only at hg HNF HOL
      obtain ⟨rfl,hr4,hk4⟩:=hg;have HR4:=Lib.hid hr4;have HV4:=Lib.hid (HV2.out.kp hk4 (fun g hg hm=>HRS2.out (by rw [← List.mem_singleton.1 hm];exact hg)));have HK4:=Lib.hid (HK2.out.trans (hk4.mono (by intro x hx;simp only [List.mem_singleton] at hx;subst hx;simp)));obtain ⟨st,hst⟩:∃ st,st=strN ob:=⟨_,rfl⟩;rw [← hst];have hsz:st.size≤16777216:=by rw [hst,strN_size];have:=HOL.out;have:=HN.out;omega
      have hex:(s.extract 0 k).size≤1000000:=by
       rw [← txt_len,txt_extract,List.length_take];have:=txt_len s;rw [List.drop_zero];omega
      have HSS:=Lib.hid (show s.extract 0 k ++ st=strN ((txt s).take k ++ ob) from by
       rw [strN_app,hst,strN_of (show txt (s.extract 0 k)=(txt s).take k from by rw [txt_extract,List.drop_zero,Nat.sub_zero])])
      clear hr4 hk4 hst hf2;go_wp2_with fail;go_ret2;rw [HNF.out,HSS.out];exact ⟨rfl,HR4.out,S2,c2,HV4.out,HK4.out,HG2.out⟩
def natV (l:List Nat):List Value:=l.map fun (x:Nat)=>.int .i64 (x:Int)
theorem natV_snoc (l:List Nat) (x:Nat):natV (l ++ [x])=natV l ++ [.int .i64 (x:Int)]:=by unfold natV;rw [List.map_append];rfl
def FrM (w:World) (lo hi:Nat) (S:List Nat) (f p:Nat) (T:CT) (ss:List ByteArray):Prop:=
 lo≤f∧f < hi∧∃ (q:Nat) (A:Option Addr) (c:Nat) (cc:Bool),Blk w f 116 [.pointer (some ⟨p,0,none⟩),.pointer (some ⟨q,0,none⟩),.slice A (startsN T ss).length c,.int .i64 (ss.length:Int)] ∧
  VecM w S q (frontB T ss) cc∧(startsN T ss).length≤c∧Rd w hi A (natV (startsN T ss))∧(∀ ad,A=some ad→lo≤ad.block∧ad.block < hi)∧(∀ g ∈ S,lo≤g)∧f ∉ S∧(∀ ad,A=some ad→ad.block ∉ S)
def FSt (w0 w:World) (S:List Nat) (f p q n:Nat) (A:Option Addr) (c ms:Nat) (xs:List Nat) (L:List Bool):Prop:=
 Blk w f 116 [.pointer (some ⟨p,0,none⟩),.pointer none,.slice A ms c,.int .i64 (n:Int)]∧w.ownsRow (f+1) 3 1 (.slice A ms c) ms (natV xs)∧WrM w S q (L,0)∧f ∉ S∧(∀ g ∈ ownL (.slice A ms c),g ∉ S)∧(∀ g ∈ S,f < g)∧w0.heap.size≤f∧Kp [] w0 w
section
variable {w0 w w':World} {S:List Nat} {f p q n c ms:Nat} {A:Option Addr} {xs:List Nat} {L L':List Bool}
theorem FSt.kp0 (h:FSt w0 w S f p q n A c ms xs L) (hk:Kp [] w w'):FSt w0 w' S f p q n A c ms xs L:=by
 obtain ⟨h1,h2,h3,h4,h5,h6,h7,h8⟩:=h;exact ⟨h1.kp0 hk,own_kp0 h2 hk,h3.kp0 hk,h4,h5,h6,h7,h8.trans hk⟩
theorem FSt.wr (h:FSt w0 w S f p q n A c ms xs L) (hw:WPost w w' S q (L',0)):∃ S',FSt w0 w' S' f p q n A c ms xs L':=by
 obtain ⟨h1,h2,h3,h4,h5,h6,h7,h8⟩:=h;obtain ⟨S',k1,k2,k3⟩:=hw;have hf:=h1.lt;refine ⟨S',h1.kp k2 h4,own_kp h2 k2 (fun g hg=>h5 g (mem_ownL.2 hg)),k1,fun hm=>?_,fun g hg hm=>?_,fun g hg=>?_,h7,h8.trans' k2 (fun x hx=>.inr (by have:=h6 x hx;omega))⟩
 ·rcases k3 f hm with h | h
  ·exact h4 h
  ·omega
 ·have:=(own_ge h2 (mem_ownL.1 hg)).2;rcases k3 g hm with h | h
  ·exact h5 g hg h
  ·omega
 ·rcases k3 g hg with h | h
  ·exact h6 g h
  ·omega
theorem FSt.start {v:Value} {x:Nat} (h:FSt w0 w S f p q n A c ms xs L) (hP:AppP w (f+1) 3 1 (ms+1) (.slice A ms c) (natV xs ++ [.int .i64 (x:Int)]) v w') :
  ∃ (A7:Option Addr) (c7:Nat),v=.slice A7 (ms+1) c7∧FSt w0 (w'.setCell ⟨f,2,none⟩ (.slice A7 (ms+1) c7)) S f p q n A7 c7 (ms+1) (xs ++ [x]) L∧w'.cell? ⟨f,2,none⟩=some (.slice A ms c)∧w'.frozen? ⟨f,2,none⟩=false:=by
 obtain ⟨h1,h2,h3,h4,h5,h6,h7,h8⟩:=h;obtain ⟨A7,c7,rfl,hown7,hk7,hn7⟩:=hP;have hf:=h1.lt;have hf5:f ∉ ownL (.slice A ms c):=fun hm=>by have:=(own_ge h2 (mem_ownL.1 hm)).1;omega
 have hf7:f ∉ ownL (.slice A7 (ms+1) c7):=fun hm=>by have:=(own_ge hown7 (mem_ownL.1 hm)).1;omega
 have hb7:=h1.kp hk7 hf5;have hks:Kp [f] w' (w'.setCell ⟨f,2,none⟩ (.slice A7 (ms+1) c7)):=(Kp.refl _ _).setCell (.inl (by simp)) _;have hw7:=h3.kp hk7 (fun g hg hm=>h5 g hm hg);refine ⟨A7,c7,rfl,⟨hb7.set_ 2 _,?_,hw7.kp hks (fun g hg hm=>by rw [List.mem_singleton.1 hm] at hg;exact h4 hg),h4,fun g hg hm=>?_,h6,h7,?_⟩,by rw [hb7.cell];rfl,hb7.free 2⟩
 ·rw [natV_snoc];exact own_kp hown7 hks (fun g hg hm=>by rw [List.mem_singleton.1 hm] at hg;exact hf7 (mem_ownL.2 hg))
 ·rcases hn7 g hg with h | h
  ·exact h5 g h hm
  ·have:=h3.lt g hm;omega
 ·exact (h8.trans' hk7 (fun x hx=>.inr (by have:=(own_ge h2 (mem_ownL.1 hx)).1;omega))).trans' hks (fun x hx=>.inr (by rw [List.mem_singleton.1 hx];exact h7))
end
theorem starts_take (T:CT) (ss:List ByteArray) (k:Nat) (hk:k≤ss.length):startsN T (ss.take k)=(List.range ((k+7) / 8)).map fun b=>(frontB T (ss.take (8 * b))).length:=by
 unfold startsN;rw [List.length_take,Nat.min_eq_left hk];refine List.map_congr_left (fun b hb=>?_);have:=List.mem_range.1 hb;rw [List.take_take,Nat.min_eq_left (by omega)]
theorem starts_next (T:CT) (ss:List ByteArray) (k:Nat) (hk:k < ss.length):startsN T (ss.take (k+1))=if k % 8=0 then startsN T (ss.take k) ++ [(frontB T (ss.take k)).length] else startsN T (ss.take k):=by
 rw [starts_take T ss (k+1) (by omega),starts_take T ss k (by omega)]
 split
 ·rename_i h
  rw [show (k+1+7) / 8=(k+7) / 8+1 by omega,List.range_succ,List.map_append,List.map_singleton,show 8 * ((k+7) / 8)=k by omega]
 ·rename_i h
  rw [show (k+1+7) / 8=(k+7) / 8 by omega]
theorem starts_len (T:CT) (ss:List ByteArray):(startsN T ss).length=(ss.length+7) / 8:=by unfold startsN;rw [List.length_map,List.length_range]
end Go.Proofs.YtanacapkfllbnaaGreatDoor
namespace Go.Proofs.YtanacapkfllbnaaGreatDoor
open Go.RowKit

theorem wGam_one {L:List Bool} {x:Nat} (h1:1≤x) (h2:x≤1000000) (hl:L.length≤16000000):wGam (L,0) [(x:Int)]=(L ++ gamL x,0):=by
 have hb:x < 2 ^ 64:=Nat.lt_of_le_of_lt h2 (by decide);have hb20:bl x≤20:=(bl_le_iff hb (by omega)).2 (Nat.lt_of_le_of_lt h2 (by decide));have hok:okG (x:Int)=true:=by unfold okG;simp;omega
 have hg:(gamL x).length≤100:=by
  rw [gamL_len hb (by omega)];omega
 unfold wGam;rw [if_neg (by simp),if_pos (by simp [hok])];unfold wPut gamsL;simp only [List.flatMap_cons,List.flatMap_nil,List.append_nil,Int.toNat_natCast]
 rw [if_neg (by simp),if_neg (by omega)]
theorem front_zero (T:CT) (ss:List ByteArray):startsN T (ss.take 0)=[]∧frontB T (ss.take 0)=[]:=by simp [startsN,frontB,frontL]
theorem FSt.done {w0 w8:World} {S V:List Nat} {f p q n c ms v Z:Nat} {A:Option Addr} {T:CT} {ss:List ByteArray} (h:FSt w0 w8 S f p q n A c ms (startsN T ss) (frontB T ss)) (hn:ss.length=n) (hv:VecM w8 V v (frontB T ss) false) (hV:∀ x ∈ V,Z≤x) (hf:f < Z) (ho:∀ g ∈ ownL (.slice A ms c),g < Z) :
  FrM (w8.setCell ⟨f,1,none⟩ (.pointer (some ⟨v,0,none⟩))) w0.heap.size (w8.setCell ⟨f,1,none⟩ (.pointer (some ⟨v,0,none⟩))).heap.size V f p T ss∧Kp [] w0 (w8.setCell ⟨f,1,none⟩ (.pointer (some ⟨v,0,none⟩))):=by
 obtain ⟨h1,h2,h3,h4,h5,h6,h7,h8⟩:=h;have hms:ms=(startsN T ss).length:=by have:=h2.1;unfold natV at this;rw [List.length_map] at this;omega
 have hks:Kp [f] w8 (w8.setCell ⟨f,1,none⟩ (.pointer (some ⟨v,0,none⟩))):=(Kp.refl _ _).setCell (.inl (by simp)) _;have hfV:f ∉ V:=fun hm=>by have:=hV f hm;omega
 obtain ⟨_,_,he,hle,_,_,hA⟩:=own_form h2;injection he with e1 e2 e3
 subst e1 e3;have hs:(w8.setCell ⟨f,1,none⟩ (.pointer (some ⟨v,0,none⟩))).heap.size=w8.heap.size:=by simp
 refine ⟨⟨h7,by rw [hs];exact h1.lt,v,A,c,false,?_,hv.kp hks (fun g hg hm=>by rw [List.mem_singleton.1 hm] at hg;exact hfV hg),by rw [← hms];exact hle,?_,fun ad e=>by have h1:=(hA ad e).2.2.1;have h2:=(hA ad e).2.2.2;rw [hs];exact ⟨by omega,h2⟩,fun g hg=>by have:=hV g hg;omega,hfV,fun ad e hm=>?_⟩,h8.trans' hks (fun x hx=>.inr (by rw [List.mem_singleton.1 hx];exact h7))⟩
 ·have:=h1.set_ 1 (.pointer (some ⟨v,0,none⟩));rw [hms,← hn] at this;exact this
 ·rw [hs];exact (own_rd h2).kp_ne hks (fun ad e hm=>by have:=(hA ad e).2.2.1;rw [List.mem_singleton.1 hm] at this;omega)
 ·have hb:ad.block ∈ ownL (.slice A ms c):=by
   obtain ⟨h9,h10,_,_⟩:=hA ad e;rw [mem_ownL];subst e
   cases ad
   simp only at h9 h10
   subst h9 h10;rfl
  have:=ho _ hb;have:=hV _ hm;omega
def FofP (w:World) (p:Nat) (T:CT) (ss:List ByteArray) (e:Ending) (w':World):Prop:=Kp [] w w'∧((riseT ss=false∧e=.returned (.tuple #[.pointer none,.int .i64 12])) ∨ (riseT ss=true∧(∃ s ∈ ss,encT T s=none)∧e=.returned (.tuple #[.pointer none,.int .i64 2])) ∨
 (riseT ss=true∧(∀ s ∈ ss,∃ r,encT T s=some r)∧∃ S f,e=.returned (.tuple #[.pointer (some ⟨f,0,none⟩),.int .i64 0])∧FrM w' w.heap.size w'.heap.size S f p T ss))
theorem fof_gen (lo hi p n c B:Nat) (A:Option Addr) (ss:List ByteArray) (T:CT) (sg:List Nat) (ls:List Int) (w:World) (h:CodeM w lo hi p T sg ls) (hx:Rd w B A (ss.map .string)) (hn:ss.length=n) (hn3:n≤30000) (hsz:∀ s ∈ ss,s.size≤30000) (hbl:∀ j,(frontB T (ss.take j)).length≤9000000) (hhi:hi≤w.heap.size) (hB:B≤w.heap.size) :
  Calls Tryz.prog 34 #[.pointer (some ⟨p,0,none⟩),.slice A n c] w (FofP w p T ss):=by
 obtain ⟨i0,hi0,hz0,hz1,hz2⟩:=info_parts Tryz.info_aint;have HSZ:=Lib.hid hsz;have HC:=Lib.hid h;have HX:=Lib.hid hx;have HN:=Lib.hid hn;have HHI:=Lib.hid hhi;have HC0:=HC;have HX0:=HX;have HBL:=Lib.hid hbl;clear h hx hn hhi hsz hbl
 go_enter Tryz.func34,Tryz.ntmps34
 go_wp2_with fail;refine (csigns_any lo hi p T sg ls w HC.out).mono ?_;rintro e w1 ⟨As,ns,cs,hns,rfl,hown1,hk1⟩;have hn1:1≤ns:=by rw [hns];exact HC.out.1.2.2.2.2.1
 have hnz:((ns:Int) == 0)=false:=by simp;omega
 have HK:=Lib.hid hk1;replace HC:=Lib.hid (HC.out.kp0 (hk1));replace HX:=Lib.hid (HX.out.kp0 (hk1));clear hns hown1 hk1;go_wp2_with fail;refine (frising_any A n c B ss w1 HX.out HN.out (by omega)).mono ?_;rintro e w2 ⟨rfl,rfl⟩
 cases hr:riseT ss with
 | false =>
   have HR:=Lib.hid hr;clear hr;go_wp2_with fail;go_ret2;exact ⟨HK.out,.inl ⟨HR.out,rfl⟩⟩
 | true =>
   have HR:=Lib.hid hr;clear hr;go_wp2_with fail
   go_loopw [26] (fun x wr=>∃ k:Nat,x=.int .i64 (k:Int)∧k≤n∧Hid (∀ s ∈ ss.take k,∃ r,encT T s=some r)∧Hid (Kp [] w1 wr)) (fun x _=>n - (intOf x).toNat)
   case atStart=>exact ⟨0,rfl,by omega,Lib.hid (by simp),Lib.hid (Kp.refl _ _)⟩
   case round =>
    obtain ⟨k,rfl,hk,HA,HKR⟩:=hrel;by_cases hlt:k < n
    ·obtain ⟨s,ad,hs,rfl,_,hcs⟩:=(HX.out.kp0 HKR.out).str (k:=k) (by rw [HN.out];exact hlt);have hsz:=HSZ.out s (List.mem_of_getElem? hs);have hb0:(0:Int)≤(k:Int):=by omega
     have hb1:(k:Int) < (n:Int):=by omega
     have HS:=Lib.hid hs;have HCR:=Lib.hid (HC.out.kp0 HKR.out);clear hs;go_wp2_with fail;refine (clong_any lo hi p T sg ls s wr HCR.out (by omega) (Nat.le_trans HHI.out (Nat.le_trans HK.out.size HKR.out.size))).mono ?_;obtain ⟨o,ho⟩:∃ o,o=encT T s:=⟨_,rfl⟩;obtain ⟨ln,hln⟩:∃ ln,ln=longN T s:=⟨_,rfl⟩;rw [← hln];rintro e w3 ⟨rfl,hk3⟩;have HK3:=Lib.hid (HKR.out.trans hk3);clear hk3 hln HKR HCR hcs;rcases o with _ | r
     ·have HLE:=Lib.hid (show longE T s=2 from by unfold longE;rw [← ho]);have HEX:=Lib.hid (show ∃ s ∈ ss,encT T s=none from ⟨s,List.mem_of_getElem? HS.out,ho.symm⟩);rw [HLE.out];clear ho;go_wp2_with fail;go_ret2;exact ⟨HK.out.trans HK3.out,.inr (.inl ⟨HR.out,HEX.out,rfl⟩)⟩
     ·have HLE:=Lib.hid (show longE T s=0 from by unfold longE;rw [← ho])
      have HA2:=Lib.hid (show ∀ s ∈ ss.take (k+1),∃ r,encT T s=some r from fun t ht=>by
       rw [take_succ_of HS.out] at ht;rcases List.mem_append.1 ht with ht | ht
       ·exact HA.out t ht
       ·rw [List.mem_singleton.1 ht];exact ⟨r,ho.symm⟩)
      rw [HLE.out];clear ho;go_wp2_with fail;exact ⟨⟨k+1,by go_num,by omega,HA2,HK3⟩,by simp [intOf];omega⟩
    ·obtain rfl:k=n:=by omega
     have HALL:=Lib.hid (show ∀ s ∈ ss,∃ r,encT T s=some r from by
      have:=HA.out
      rwa [List.take_of_length_le (by rw [HN.out];exact Nat.le_refl _)] at this)
     replace HK:=Lib.hid (HK.out.trans HKR.out);replace HC:=Lib.hid (HC.out.kp0 HKR.out);replace HX:=Lib.hid (HX.out.kp0 HKR.out);clear HA HKR hlt hk;go_wp2_with fail;obtain ⟨w5,hw5⟩:∃ w5,w5=wr.alloc (.cells #[.pointer (some ⟨p,0,none⟩),.pointer none,.slice none 0 0,.int .i64 (k:Int)] 116):=⟨_,rfl⟩;obtain ⟨f,hf⟩:∃ f,f=wr.heap.size:=⟨_,rfl⟩;rw [← hw5,← hf];have hk5:Kp [] wr w5:=by rw [hw5];exact (Kp.refl [] wr).alloc _
     have HB5:=Lib.hid (show Blk w5 f 116 [.pointer (some ⟨p,0,none⟩),.pointer none,.slice none 0 0,.int .i64 (k:Int)] from by rw [hw5,hf];exact Blk.new wr 116 [.pointer (some ⟨p,0,none⟩),.pointer none,.slice none 0 0,.int .i64 (k:Int)]);have HF0:=Lib.hid (show w.heap.size≤f from by rw [hf];exact HK.out.size);have HHF:=Lib.hid (show hi≤f from Nat.le_trans HHI.out HF0.out);have HBF:=Lib.hid (show B≤f from Nat.le_trans hB HF0.out);replace HK:=Lib.hid (HK.out.trans hk5);replace HC:=Lib.hid (HC.out.kp0 hk5);replace HX:=Lib.hid (HX.out.kp0 hk5);clear hw5 hf hk5;refine (wnew_any w5).mono ?_;rintro e w6 ⟨S0,q,rfl,hw6,hS6,hk6⟩;have HS0:=Lib.hid (show FSt w w6 S0 f p q k none 0 0 [] [] from ⟨HB5.out.kp0 hk6,World.ownsRow_nil _ _ _ 1,hw6,fun hm=>by have:=hS6 f hm;have:=HB5.out.lt;omega,(by intro g hg;cases hg),fun g hg=>by have:=hS6 g hg;have:=HB5.out.lt;omega,HF0.out,HK.out.trans hk6⟩);clear hw6 hS6 hk6 HB5;go_wp2_with fail
     go_loopw [49] (fun x wr=>∃ (j c2 m:Nat) (A2:Option Addr) (S:List Nat),x=.int .i64 (j:Int)∧j≤k∧m≤j∧Hid (FSt w wr S f p q k A2 c2 m (startsN T (ss.take j)) (frontB T (ss.take j)))) (fun x _=>k - (intOf x).toNat)
     case atStart=>exact ⟨0,0,0,none,S0,rfl,by omega,by omega,Lib.hid (by rw [(front_zero T ss).1,(front_zero T ss).2];exact HS0.out)⟩
     case round =>
      clear HS0;obtain ⟨j,c2,m,A2,S,rfl,hj,hm,HS⟩:=hrel;have HKW:=Lib.hid (show Kp [] w wr from HS.out.2.2.2.2.2.2.2);by_cases hlt:j < k
      ·obtain ⟨s,ad,hs,rfl,hadb,hcs⟩:=(HX0.out.kp0 HKW.out).str (k:=j) (by rw [HN.out];exact hlt);have hb0:(0:Int)≤(j:Int):=by omega
       have hb1:(j:Int) < (k:Int):=by omega
       have hsz:=HSZ.out s (List.mem_of_getElem? hs);obtain ⟨r,hr⟩:=HALL.out s (List.mem_of_getElem? hs);have HNX:=Lib.hid (frontB_next T hs);have HST:=Lib.hid (starts_next T ss j (by rw [HN.out];exact hlt));have HE0:=Lib.hid (show ∃ v,encT T s=some v∧encD T (txt s) 0=v from ⟨r,hr,by unfold encD;rw [List.drop_zero,show T.enc (sgs (txt s))=some r from hr];rfl⟩)
       have HE:=Lib.hid (show ∀ i,∃ v,encT T (s.extract i s.size)=some v∧encD T (txt s) i=v from fun i=>by
        obtain ⟨u,v,hv,_⟩:=enc_rest (show T.enc (sgs (txt s))=some r from hr) i
        exact ⟨v,by unfold encT;rw [txt_tail];exact hv,by unfold encD;rw [hv];rfl⟩)
       have HBJ:=Lib.hid (HBL.out (j+1));obtain ⟨rm,hrm⟩:∃ rm,rm=j % 8:=⟨_,rfl⟩;have HRM:=Lib.hid hrm;have HTM:=Lib.hid (show Int.tmod (j:Int) 8=(rm:Int) from by rw [Int.tmod_eq_emod_of_nonneg (by omega)];omega);have HSS:=Lib.hid hs;obtain ⟨N,hN⟩:∃ N,(frontB T (ss.take j)).length=N:=⟨_,rfl⟩;have HNL:=Lib.hid hN;clear hs hr hrm hN;by_cases hz:rm=0
       ·have hrz:((rm:Int) == 0)=true:=by simp;omega
        have hcst:wr.cell? ⟨f,2,none⟩=some (.slice A2 m c2):=by rw [HS.out.1.cell];rfl
        have HOW:=Lib.hid HS.out.2.1;have HFZ:=Lib.hid (show f+1≤wr.heap.size from HS.out.1.lt);have htm:=HTM.out;go_wp2_with fail;refine wp_region_tail (by kernel_rfl) 11 101 8 65 [57,58,59,60,61,62,63,64,65,66,67] [[],[],[58],[58,59],[58,59,60],[],[62],[62,63],[58,59,60,61,62,63,64],[57],[57,66]] [57,58,59,60,61,62,63,66,67] [65] [.pointer (some ⟨f,0,none⟩),.pointer (some ⟨f,0,none⟩),.pointer (some ⟨f,0,none⟩),.pointer (some ⟨f,2,none⟩),.slice A2 m c2,.pointer (some ⟨q,0,none⟩),.int .i64 (N:Int),.pointer (some ⟨f,0,none⟩),.pointer (some ⟨f,2,none⟩)] [(57,.eq (.pointer (some ⟨f,0,none⟩))),(58,.eq (.pointer (some ⟨f,0,none⟩))),(59,.eq (.pointer (some ⟨f,0,none⟩))),(60,.eq (.pointer (some ⟨f,2,none⟩))),(61,.eq (.slice A2 m c2)),(62,.eq (.pointer (some ⟨q,0,none⟩))),(63,.eq (.int .i64 (N:Int))),(64,SFact.vals 1 ([.int .i64 (N:Int)])),(65,(⟨AppP wr (f+1) 3 1 (m+1) (.slice A2 m c2) (natV (startsN T (ss.take j)) ++ [.int .i64 (N:Int)]),AppP.st⟩:SFact)),(66,.eq (.pointer (some ⟨f,0,none⟩))),(67,.eq (.pointer (some ⟨f,2,none⟩)))] rfl (by kernel_rfl) (by kernel_rfl) (by kernel_rfl) rfl rfl _ (fun x=>by simp only [fillL,Nat.reduceAdd,Nat.reduceEqDiff,↓reduceIte];rfl) ?_ ?_ ?_
        ·refine ⟨?_,?_,?_,?_,?_,?_,?_,?_,?_,?_,?_,trivial⟩
         ·intro fx w' fa hd ev;have e10:fa.tmps[10]?.getD undef=.pointer (some ⟨f,0,none⟩):=ev.old 10 rfl;refine stepF_un rfl (fun K hK=>?_);exact stepF_val _ hK (run_move rfl e10 _) rfl
         ·intro fx w' fa hk hd ev;have e10:fa.tmps[10]?.getD undef=.pointer (some ⟨f,0,none⟩):=ev.old 10 rfl;refine stepF_un rfl (fun K hK=>?_);exact stepF_val _ hK (run_move rfl e10 _) rfl
         ·intro fx w' fa hk hd ev;have e58:=(ev.new 58 rfl).trans (show fx 58=.pointer (some ⟨f,0,none⟩) from hd.1);refine stepF_un rfl (fun K hK=>?_);go_simp;exact hK _ _ rfl (Kp.refl _ _)
         ·intro fx w' fa hk hd ev;have e59:=(ev.new 59 rfl).trans (show fx 59=.pointer (some ⟨f,0,none⟩) from hd.2.1);refine stepF_un rfl (fun K hK=>?_);go_simp;exact hK _ _ rfl (Kp.refl _ _)
         ·intro fx w' fa hk hd ev;have e60:=(ev.new 60 rfl).trans (show fx 60=.pointer (some ⟨f,2,none⟩) from hd.2.2.1);refine stepF_un rfl (fun K hK=>?_);have q9:=hk.cell hcst (by simp);go_simp;exact hK _ _ rfl (Kp.refl _ _)
         ·intro fx w' fa hk hd ev;have e11:fa.tmps[11]?.getD undef=.pointer (some ⟨q,0,none⟩):=ev.old 11 rfl;refine stepF_un rfl (fun K hK=>?_);exact stepF_val _ hK (run_move rfl e11 _) rfl
         ·intro fx w' fa hk hd ev;have e62:=(ev.new 62 rfl).trans (show fx 62=.pointer (some ⟨q,0,none⟩) from hd.1);refine stepF_un rfl (fun K hK=>?_);go_simp;refine (wlen_any S q (frontB T (ss.take j),0) N w' (HS.out.2.2.1.kp0 hk) HNL.out).mono ?_;rintro e w2 ⟨rfl,rfl⟩;exact hK _ _ rfl (Kp.refl _ _)
         ·intro fx w' fa hk hd ev;have e63:=(ev.new 63 rfl).trans (show fx 63=.int .i64 (N:Int) from hd.2.1);refine stepF_un rfl (fun K hK=>?_);go_simp;exact hK _ _ (vals_new w' ([.int .i64 (N:Int)]) 3 1) ((Kp.refl _ _).alloc _)
         ·exact trivial
         ·intro fx w' fa hd ev;have e57:=(ev.new 57 rfl).trans (show fx 57=.pointer (some ⟨f,0,none⟩) from hd.1);refine stepF_un rfl (fun K hK=>?_);go_simp;exact hK _ _ rfl (Kp.refl _ _)
         ·intro fx w' fa hd ev;have e66:=(ev.new 66 rfl).trans (show fx 66=.pointer (some ⟨f,0,none⟩) from hd.2.1);refine stepF_un rfl (fun K hK=>?_);go_simp;exact hK _ _ rfl (Kp.refl _ _)
        ·intro o1 ho1 fx w' fa hk hd ev K hK;obtain rfl:=Option.some.inj ho1;have e61:=(ev.new 61 rfl).trans (show fx 61=.slice A2 m c2 from hd.2.2.2.1);have h64:(SFact.vals 1 ([.int .i64 (N:Int)]):SFact).p (fx 64) w':=hd.2.2.2.2.2.2.1;obtain ⟨A64,c64,v64,hc64,hr64⟩:=h64;have e64:fa.tmps[64]?.getD undef=.slice A64 1 c64:=(ev.new 64 rfl).trans v64;exact wp_append_app 61 64 81 rfl (f+1) 3 i0 (.int .i64 0) 1 8 Tryz.underlying81 hi0 hz0 hz1 hz2 rfl (by decide) (.slice A2 m c2) m _ e61 HOW.out hk _ A64 1 c64 _ e64 rfl hr64 (by intro u hu;simp at hu;subst hu;rfl) (by unfold maxLen;omega) (by omega) HFZ.out hK
        ·intro fx w' hd;have h57:fx 57=.pointer (some ⟨f,0,none⟩):=hd.1;have h58:fx 58=.pointer (some ⟨f,0,none⟩):=hd.2.1;have h59:fx 59=.pointer (some ⟨f,0,none⟩):=hd.2.2.1;have h60:fx 60=.pointer (some ⟨f,2,none⟩):=hd.2.2.2.1;have h61:fx 61=.slice A2 m c2:=hd.2.2.2.2.1;have h62:fx 62=.pointer (some ⟨q,0,none⟩):=hd.2.2.2.2.2.1;have h63:fx 63=.int .i64 (N:Int):=hd.2.2.2.2.2.2.1;have hP:(AppP wr (f+1) 3 1 (m+1) (.slice A2 m c2) (natV (startsN T (ss.take j)) ++ [.int .i64 (N:Int)])) (fx 65) w':=hd.2.2.2.2.2.2.2.1;have h66:fx 66=.pointer (some ⟨f,0,none⟩):=hd.2.2.2.2.2.2.2.2.1;have h67:fx 67=.pointer (some ⟨f,2,none⟩):=hd.2.2.2.2.2.2.2.2.2.1
         change Oper.wp _ _ _ _ _ _
         obtain ⟨A7,c7,e65,hS7,g1,g2⟩:=HS.out.start hP;obtain ⟨w7,hw7⟩:∃ w7,w7=w'.setCell ⟨f,2,none⟩ (.slice A7 (m+1) c7):=⟨_,rfl⟩;rw [← hw7] at hS7;have HS7:=Lib.hid hS7;rw [e65,h67];clear hd hS7 hcst;go_simp;rw [← hw7];clear hw7 g1 g2 HS HOW HFZ;go_wp2_with fail;rw [show startsN T (ss.take j) ++ [N]=startsN T (ss.take (j+1)) from by rw [HST.out,if_pos (by have:=HRM.out;omega),HNL.out]] at HS7;have HLQ:=Lib.hid (show frontB T (ss.take j) ++ encD T (txt s) 0=frontB T (ss.take (j+1)) from by rw [HNX.out];unfold pieceF;rw [if_pos (by have:=HRM.out;omega)]);obtain ⟨v,hv1,hv2⟩:=HE0.out;have hLX:=HLQ.out;rw [hv2] at hLX;obtain ⟨hp1,hp2⟩:=put_text (L:=(frontB T (ss.take j))) hv1 (by have h1:=congrArg List.length hLX;rw [List.length_append] at h1;have:=HBJ.out;omega);refine (cput_any lo hi p q N S ((frontB T (ss.take j)),0) T sg ls s w7 (HC0.out.kp0 HS7.out.2.2.2.2.2.2.2) HS7.out.2.2.1 HNL.out (by omega) (Nat.le_trans HHI.out HS7.out.2.2.2.2.2.2.2.size)).mono ?_;rintro e w8 ⟨rfl,hp8⟩;rw [hp1];rw [hp2,hLX] at hp8;obtain ⟨S8,hS8⟩:=HS7.out.wr hp8;have HS8:=Lib.hid hS8;clear hv1 hv2 hLX hp1 hp2 hp8 hS8;go_wp2_with fail;exact ⟨⟨j+1,c7,(m+1),A7,S8,by go_num,by omega,by omega,HS8⟩,by simp [intOf];omega⟩
       ·have hrz:((rm:Int) == 0)=false:=by simp;omega
        obtain ⟨i,rfl⟩:∃ i,j=i+1:=⟨j - 1,by have:=HRM.out;omega⟩;obtain ⟨t,ad',ht,e',_,hct⟩:=(HX0.out.kp0 HKW.out).str (k:=i) (by rw [HN.out];omega);injection e' with e'
        subst e';have HPV:=Lib.hid (show prevT ss (i+1)=txt t from prevT_succ ht);have htz:=HSZ.out t (List.mem_of_getElem? ht);have htm:=HTM.out;have hcs2:wr.cell? ⟨ad.block,ad.off+(i+1),none⟩=some (.string s):=hcs;obtain ⟨al,hal⟩:∃ al,alikeN (txt t) (txt s)=al:=⟨_,rfl⟩;have hals:al≤s.size:=by rw [← hal,← txt_len];exact (alikeN_le _ _).2.1
        have HAL:=Lib.hid hal;have hb2:(0:Int)≤(i:Int):=by omega
        have hb3:(i:Int) < (k:Int):=by omega
        have htm2:Int.tmod ((i:Int)+1) 8=(rm:Int):=by rw [Int.tmod_eq_emod_of_nonneg (by omega)];have:=HRM.out;omega
        have hjr:(((i+1:Nat)):Int)=(i:Int)+1:=by omega
        clear ht hcs hal;go_wp2_with fail;refine (falike_any t s wr (by omega) (by omega)).mono ?_;rw [HAL.out];rintro e w7 ⟨rfl,hd7⟩;have HS7:=Lib.hid (HS.out.kp0 (hd7.kp []));clear hd7 hct hcs2;go_wp2_with fail;refine (wgamma_any S q N 1 1 _ _ [((al+1:Nat):Int)] (frontB T (ss.take (i+1)),0) _ (HS7.out.2.2.1.kp0 ((Kp.refl [] w7).alloc _)) HNL.out (Rd.new w7 #[.int .i64 ((al+1:Nat):Int)] 3 (0,0)) rfl (by omega) (by intro x hx;simp at hx;omega)).mono ?_;rw [wGam_one (L:=frontB T (ss.take (i+1))) (by omega) (by omega) (by have:=HBL.out (i+1);omega)];rintro e w8 ⟨rfl,hp8⟩;obtain ⟨S8,hS8⟩:=(HS7.out.kp0 ((Kp.refl [] w7).alloc _)).wr hp8;rw [show startsN T (ss.take (i+1))=startsN T (ss.take (i+1+1)) from by rw [HST.out,if_neg (by have:=HRM.out;omega)]] at hS8;have HS8:=Lib.hid hS8
        have HLQ:=Lib.hid (show (frontB T (ss.take (i+1)) ++ gamL (al+1)) ++ encD T (txt s) al=frontB T (ss.take (i+1+1)) from by
         rw [HNX.out];unfold pieceF
         rw [if_neg (by have:=HRM.out;omega),HPV.out,HAL.out,List.append_assoc])
        obtain ⟨N8,hN8⟩:∃ N8,(frontB T (ss.take (i+1)) ++ gamL (al+1)).length=N8:=⟨_,rfl⟩;have HN8:=Lib.hid hN8;have HSX:=Lib.hid (show (s.extract al s.size).size≤3000000 from by rw [← txt_len,txt_tail,List.length_drop,txt_len];omega);clear hp8 hS8 hN8 HS7 HS htm htm2;go_wp2_with fail;obtain ⟨v,hv1,hv2⟩:=(HE.out al);have hLX:=HLQ.out;rw [hv2] at hLX;obtain ⟨hp1,hp2⟩:=put_text (L:=(frontB T (ss.take (i+1)) ++ gamL (al+1))) hv1 (by have h1:=congrArg List.length hLX;rw [List.length_append] at h1;have:=HBJ.out;omega);refine (cput_any lo hi p q N8 S8 ((frontB T (ss.take (i+1)) ++ gamL (al+1)),0) T sg ls (s.extract al s.size) w8 (HC0.out.kp0 HS8.out.2.2.2.2.2.2.2) HS8.out.2.2.1 HN8.out HSX.out (Nat.le_trans HHI.out HS8.out.2.2.2.2.2.2.2.size)).mono ?_;rintro e w8 ⟨rfl,hp8⟩;rw [hp1];rw [hp2,hLX] at hp8;obtain ⟨S8,hS8⟩:=HS8.out.wr hp8;have HS8:=Lib.hid hS8;clear hv1 hv2 hLX hp1 hp2 hp8 hS8;go_wp2_with fail;exact ⟨⟨(i+1)+1,c2,m,A2,S8,by go_num,by omega,by omega,HS8⟩,by simp [intOf];omega⟩
      ·obtain rfl:j=k:=by omega
       have HST:=Lib.hid (show FSt w wr S f p q j A2 c2 m (startsN T ss) (frontB T ss) from by
        have:=HS.out
        rwa [List.take_of_length_le (by rw [HN.out];exact Nat.le_refl _)] at this)
       clear HS;go_wp2_with fail;refine (wvec_ok S q (frontB T ss) wr HST.out.2.2.1).mono ?_;rintro e w8 ⟨V,v,rfl,hv,hV,hk8⟩;have HS8:=Lib.hid (HST.out.kp0 hk8);have HV:=Lib.hid hv;have HVB:=Lib.hid (show ∀ x ∈ V,wr.heap.size≤x from hV);have HFW:=Lib.hid (show f < wr.heap.size from HST.out.1.lt);have HOL:=Lib.hid (show ∀ g ∈ ownL (.slice A2 m c2),g < wr.heap.size from fun g hg=>(own_ge HST.out.2.1 (mem_ownL.1 hg)).2);have hcv:w8.cell? ⟨f,1,none⟩=some (.pointer none):=by rw [HS8.out.1.cell];rfl
       have hfv:w8.frozen? ⟨f,1,none⟩=false:=HS8.out.1.free 1;clear hv hV hk8 HST;go_wp2_with fail;go_ret2;obtain ⟨hd1,hd2⟩:=HS8.out.done HN.out HV.out HVB.out HFW.out HOL.out;exact ⟨hd2,.inr (.inr ⟨HR.out,HALL.out,V,f,rfl,hd1⟩)⟩
theorem FrM.kp {w w':World} {lo hi f p:Nat} {S U:List Nat} {T:CT} {ss:List ByteArray} (h:FrM w lo hi S f p T ss) (hk:Kp U w w') (hU:∀ g ∈ U,g ∉ S∧(g < lo ∨ hi≤g)):FrM w' lo hi S f p T ss:=by
 obtain ⟨h1,h2,q,A,c,cc,h3,h4,h5,h6,h7,h8,h9,h10⟩:=h;refine ⟨h1,h2,q,A,c,cc,h3.kp hk (fun hm=>by rcases (hU f hm).2 with h | h <;> omega),h4.kp hk (fun g hg hm=>(hU g hm).1 hg),h5,?_,h7,h8,h9,h10⟩;intro i u hu;obtain ⟨ad,e,hb,hc⟩:=h6 i u hu
 exact ⟨ad,e,hb,hk.cell hc (fun hm=>by
  rw [addr_add_block] at hm;have:=h7 ad e
  rcases (hU _ hm).2 with h | h <;> omega)⟩
theorem FrM.kp0 {w w':World} {lo hi f p:Nat} {S:List Nat} {T:CT} {ss:List ByteArray} (h:FrM w lo hi S f p T ss) (hk:Kp [] w w'):FrM w' lo hi S f p T ss:=h.kp hk (by simp)
theorem FrM.cells {w:World} {lo hi f p:Nat} {S:List Nat} {T:CT} {ss:List ByteArray} (h:FrM w lo hi S f p T ss):∃ (q:Nat) (A:Option Addr) (c n m:Nat) (cc:Bool),n=ss.length∧m=(startsN T ss).length∧w.cell? ⟨f,0,none⟩=some (.pointer (some ⟨p,0,none⟩))∧w.cell? ⟨f,1,none⟩=some (.pointer (some ⟨q,0,none⟩))∧w.cell? ⟨f,2,none⟩=some (.slice A m c)∧w.cell? ⟨f,3,none⟩=some (.int .i64 (n:Int))∧VecM w S q (frontB T ss) cc∧m≤c∧Rd w hi A (natV (startsN T ss)):=by
 obtain ⟨h1,h2,q,A,c,cc,h3,h4,h5,h6,h7,h8,h9,h10⟩:=h;exact ⟨q,A,c,_,_,cc,rfl,rfl,by rw [h3.cell];rfl,by rw [h3.cell];rfl,by rw [h3.cell];rfl,by rw [h3.cell];rfl,h4,h5,h6⟩
section
variable {lo hi f p:Nat} {S:List Nat} {T:CT} {ss:List ByteArray}
theorem fthere_any (w:World) (h:FrM w lo hi S f p T ss):Calls Tryz.prog 81 #[.pointer (some ⟨f,0,none⟩)] w fun e w'=>e=.returned (.bool true)∧w=w':=by
 obtain ⟨q,A,c,n,m,cc,_,_,_,hc1,_⟩:=h.cells;clear h
 go_enter Tryz.func81,Tryz.ntmps81
 go_wp2_with fail;go_ret;exact ⟨rfl,rfl⟩
theorem flen_any (n:Nat) (w:World) (h:FrM w lo hi S f p T ss) (hn:ss.length=n):Calls Tryz.prog 56 #[.pointer (some ⟨f,0,none⟩)] w fun e w'=>e=.returned (.int .i64 (n:Int))∧w=w':=by
 obtain ⟨q,A,c,n',m,cc,hn',_,_,_,_,hc3,_⟩:=h.cells;rw [hn'] at hc3;rw [hn] at hc3;have H:=Lib.hid h;clear h hn hn'
 go_enter Tryz.func56,Tryz.ntmps56
 go_wp2_with fail;refine (fthere_any w H.out).mono ?_;rintro e w1 ⟨rfl,rfl⟩;go_wp2_with fail;go_ret;exact ⟨rfl,rfl⟩
theorem fstarts_any (w:World) (h:FrM w lo hi S f p T ss) (hb:ss.length≤1000000):Calls Tryz.prog 73 #[.pointer (some ⟨f,0,none⟩)] w fun e w'=>∃ (A':Option Addr) (m c':Nat),m=(startsN T ss).length∧e=.returned (.slice A' m c')∧w'.ownsRow w.heap.size 3 1 (.slice A' m c') m (natV (startsN T ss))∧Kp [] w w':=by
 obtain ⟨q,A,c,n',m,cc,hn',hm,_,_,hc2,_,_,hmc,hr⟩:=h.cells;have hm9:m≤1000000:=by rw [hm,starts_len];omega
 have H:=Lib.hid h;have HR:=Lib.hid hr;have HM:=Lib.hid hm;clear h hn' hr hm
 go_enter Tryz.func73,Tryz.ntmps73
 go_wp2_with fail;refine (fthere_any w H.out).mono ?_;rintro e w1 ⟨rfl,rfl⟩;go_wp2_with fail
 refine (clonei_any A m c hi _ w HR.out (by unfold natV;rw [List.length_map];exact HM.out.symm) (by omega) (oc_nats _) (fun e=>by
  have h9:=HR.out;rw [e] at h9;have h8:=h9.none_nil;unfold natV at h8;rw [HM.out]
  simpa using congrArg List.length h8)).mono ?_
 rintro e w1 ⟨A',c',rfl,ho,hk⟩;have HO:=Lib.hid ho;have HK:=Lib.hid hk;clear ho hk;go_wp2_with fail;go_ret;exact ⟨A',m,c',HM.out,rfl,HO.out,HK.out⟩

theorem vback_any (N m c B:Nat) (A:Option Addr) (L:List Bool) (w:World) (hx:Rd w B A ((bytesN (bitN L) m).map (.int .u8))) (hm:m=(N+7) / 8) (hN:L.length=N) (hb:N≤16777216) :
  Calls Tryz.prog 100 #[.int .i64 (N:Int),.slice A m c] w fun e w'=>(∃ S p,e=.returned (.tuple #[.pointer (some ⟨p,0,none⟩),.int .i64 0])∧VecM w' S p L false∧(∀ x ∈ S,w.heap.size≤x))∧Kp [] w w':=by
 obtain ⟨R6,hR6⟩:∃ R6,R6=(bytesN (bitN L) m).map Int.toNat:=⟨_,rfl⟩;have hI6:intsN R6=bytesN (bitN L) m:=by rw [hR6];exact intsN_bytes (bytesN_val _ _)
 have hL6:R6.length=m:=by rw [hR6,List.length_map,bytesN_len]
 have hS6:∀ y ∈ R6,y < 2 ^ 8:=fun y hy=>by
  rw [hR6] at hy;obtain ⟨x,hx,rfl⟩:=List.mem_map.1 hy;have:=bytesN_val _ _ x hx;omega
 have hP6:packN 8 R6=bitN L:=by
  rw [hR6,packN_bytesN,Nat.mod_eq_of_lt];refine Nat.lt_of_lt_of_le (bitN_lt L) (Nat.pow_le_pow_right (by omega) ?_);rw [hN,hm];omega
 have hE6:readE ((N:Nat):Int) R6=0:=readE_ok (lenE_nat (by omega)) (by rw [hL6,hm]) (by rw [hP6,← hN];exact bitN_lt L);refine (vread_any (N:Int) A m c _ R6 w (by rw [hI6];exact hx) hL6 (by omega) hS6).mono ?_;rintro e w7 ⟨hk,⟨hne,_⟩ | ⟨_,_,_,_,S7,p7,rfl,hv7,hS7⟩⟩
 ·exact absurd hE6 hne
 ·rw [Int.toNat_natCast,hP6,← hN,bitsOf_bitN] at hv7;exact ⟨⟨S7,p7,rfl,hv7,hS7⟩,hk⟩
theorem fbits_any (w:World) (h:FrM w lo hi S f p T ss):Calls Tryz.prog 74 #[.pointer (some ⟨f,0,none⟩)] w fun e w'=>(∃ S' q',e=.returned (.pointer (some ⟨q',0,none⟩))∧VecM w' S' q' (frontB T ss) false∧∀ x ∈ S',w.heap.size≤x)∧Kp [] w w':=by
 obtain ⟨q,A,c,n',m0,cc,_,_,_,hc1,_,_,hv,_,_⟩:=h.cells;obtain ⟨N,hN⟩:∃ N,(frontB T ss).length=N:=⟨_,rfl⟩;have hN16:N≤16777216:=by rw [← hN];exact hv.tail.2.2.2
 obtain ⟨m,hm⟩:∃ m,m=(N+7) / 8:=⟨_,rfl⟩;have H:=Lib.hid h;have HV:=Lib.hid hv;have HN:=Lib.hid hN;have HM:=Lib.hid hm;clear h hv hN hm
 go_enter Tryz.func74,Tryz.ntmps74
 go_wp2_with fail;refine (fthere_any w H.out).mono ?_;rintro e w1 ⟨rfl,rfl⟩;go_wp2_with fail
 go_region_held3 (fun w'=>w'.cell? ⟨f,1,none⟩=some (.pointer (some ⟨q,0,none⟩))) (go_keep)
  (first
   | (go_at_call 78
      refine (vlen_any S q N (frontB T ss) cc _ (HV.out.kp0 ((Kp.refl [] w).drew)) HN.out).mono ?_
      rintro e w3 ⟨rfl,rfl⟩)
   | (go_at_call 77
      refine (vbytes_any S q (frontB T ss) cc _ (HV.out.kp0 ((Kp.refl [] w).drew))).mono ?_;rintro e w4 ⟨A2,m2,c2,hm2,rfl,hown2,hk2⟩;obtain rfl:m2=m:=by rw [hm2,HN.out,HM.out]
      have HO:=Lib.hid (own_rd hown2);have HK4:=Lib.hid (((Kp.refl [] w).drew).trans hk2);have hc14:=HK4.out.cell hc1 (by simp)
      clear hm2 hown2 hk2 hc1)
   | (go_at_call 100
      refine (vback_any N m2 c2 _ A2 (frontB T ss) w4 HO.out HM.out HN.out hN16).mono ?_;rintro e w5 ⟨⟨S3,p3,rfl,hv3,hb3⟩,hk5⟩;have HV3:=Lib.hid hv3;have HB3:=Lib.hid (show ∀ x ∈ S3,w.heap.size≤x from fun x hx=>Nat.le_trans HK4.out.size (hb3 x hx));have HK5:=Lib.hid (HK4.out.trans hk5);have hc15:=hk5.cell hc14 (by simp)
      clear hv3 hb3 hk5 hc14))
 go_wp2_with fail;go_ret;exact ⟨⟨S3,p3,rfl,HV3.out,HB3.out⟩,HK5.out⟩
end
end Go.Proofs.YtanacapkfllbnaaGreatDoor
namespace Go.Proofs.YtanacapkfllbnaaGreatDoor
open Go.RowKit

structure Fro (w:World) (lo hi lo' hi':Nat) (S:List Nat) (f p:Nat) (T:CT) (sg:List Nat) (ls:List Int) (ss:List ByteArray):Prop where
 fr:FrM w lo hi S f p T ss
 cd:CodeM w lo' hi' p T sg ls
 cs:∀ g ∈ S,g < lo' ∨ hi'≤g
 tab:Tab64 w
 tabS:0 ∉ S
 hw:hi'≤w.heap.size∧hi≤w.heap.size
 tex:∀ s ∈ ss,(∃ r,encT T s=some r)∧s.size≤1000000
section
variable {w w':World} {lo hi lo' hi' f p:Nat} {S S':List Nat} {T:CT} {sg:List Nat} {ls:List Int} {ss:List ByteArray}
theorem Fro.kp0 (h:Fro w lo hi lo' hi' S f p T sg ls ss) (hk:Kp [] w w'):Fro w' lo hi lo' hi' S f p T sg ls ss:=
 ⟨h.fr.kp0 hk,h.cd.kp0 hk,h.cs,h.tab.kp0 hk,h.tabS,⟨Nat.le_trans h.hw.1 hk.size,Nat.le_trans h.hw.2 hk.size⟩,h.tex⟩
theorem Fro.kp {U:List Nat} (h:Fro w lo hi lo' hi' S f p T sg ls ss) (hk:Kp U w w') (hU:∀ g ∈ U,g ∉ S∧(g < lo ∨ hi≤g)∧(g < lo' ∨ hi'≤g)∧g ≠ 0):Fro w' lo hi lo' hi' S f p T sg ls ss:=
 ⟨h.fr.kp hk (fun g hg=>⟨(hU g hg).1,(hU g hg).2.1⟩),h.cd.kp hk (fun g hg=>(hU g hg).2.2.1),h.cs,h.tab.kp hk (fun hm=>(hU _ hm).2.2.2 rfl),h.tabS,⟨Nat.le_trans h.hw.1 hk.size,Nat.le_trans h.hw.2 hk.size⟩,h.tex⟩
end
theorem FrM.upd {w w':World} {lo hi f p q:Nat} {S S' X:List Nat} {T:CT} {ss:List ByteArray} {cc:Bool} (h:FrM w lo hi S f p T ss) (hq:w.cell? ⟨f,1,none⟩=some (.pointer (some ⟨q,0,none⟩))) (hk:Kp X w w') (hX:∀ g ∈ X,g ∈ S ∨ g < lo ∨ hi≤g) (hv:VecM w' S' q (frontB T ss) cc) (hg:∀ g ∈ S',g ∈ S ∨ hi≤g):FrM w' lo hi S' f p T ss∧w'.cell? ⟨f,1,none⟩=some (.pointer (some ⟨q,0,none⟩)):=by
 obtain ⟨h1,h2,q2,A,c,cc2,h3,h4,h5,h6,h7,h8,h9,h10⟩:=h
 have e:q2=q:=by
  rw [h3.cell] at hq;simpa using hq
 subst e;have hfX:f ∉ X:=fun hm=>by rcases hX f hm with h | h | h;exact h9 h;omega;omega
 have hb:=h3.kp hk hfX;refine ⟨⟨h1,h2,q2,A,c,cc,hb,hv,h5,?_,h7,fun g hm=>?_,fun hm=>?_,fun ad e hm=>?_⟩,by rw [hb.cell];rfl⟩
 ·intro i u hu;obtain ⟨ad,e,hbb,hc⟩:=h6 i u hu
  exact ⟨ad,e,hbb,hk.cell hc (fun hm=>by
   rw [addr_add_block] at hm;have h71:=h7 ad e;rcases hX _ hm with h | h | h
   ·exact h10 ad e h
   ·omega
   ·omega)⟩
 ·rcases hg g hm with h | h
  ·exact h8 g h
  ·omega
 ·rcases hg f hm with h | h
  ·exact h9 h
  ·omega
 ·rcases hg _ hm with h | h
  ·exact h10 ad e h
  ·have:=(h7 ad e).2;omega
end Go.Proofs.YtanacapkfllbnaaGreatDoor
namespace Go.Proofs.YtanacapkfllbnaaGreatDoor
open Go.RowKit

theorem Fro.upd {w w':World} {lo hi lo' hi' f p q:Nat} {S S' X:List Nat} {T:CT} {sg:List Nat} {ls:List Int} {ss:List ByteArray} {cc:Bool} (h:Fro w lo hi lo' hi' S f p T sg ls ss) (hq:w.cell? ⟨f,1,none⟩=some (.pointer (some ⟨q,0,none⟩))) (hk:Kp X w w') (hX:∀ g ∈ X,g ∈ S ∨ (hi≤g∧hi'≤g∧g ≠ 0)) (hv:VecM w' S' q (frontB T ss) cc) (hg:Grow w S S'):Fro w' lo hi lo' hi' S' f p T sg ls ss∧w'.cell? ⟨f,1,none⟩=some (.pointer (some ⟨q,0,none⟩)):=by
 have h2:=h.hw;have h3:=h.tab.lt;obtain ⟨k1,k2⟩:=h.fr.upd hq hk (fun g hm=>(hX g hm).elim .inl (fun h=>.inr (.inr h.1))) hv (fun g hm=>(hg g hm).elim .inl (fun h=>.inr (by omega)));refine ⟨⟨k1,h.cd.kp hk (fun g hm=>(hX g hm).elim (h.cs g) (fun h=>.inr h.2.1)),fun g hm=>(hg g hm).elim (h.cs g) (fun h=>.inr (by omega)),h.tab.kp hk (fun hm=>(hX _ hm).elim h.tabS (fun h=>h.2.2 rfl)),fun hm=>(hg _ hm).elim h.tabS (fun h=>by omega),⟨Nat.le_trans h2.1 hk.size,Nat.le_trans h2.2 hk.size⟩,h.tex⟩,k2⟩
theorem piece_first {T:CT} {k:Nat} {a b t:List Nat} (h:k % 8=0 ∨ a=b):pieceF T k a t=pieceF T k b t:=by
 rcases h with h | h
 ·unfold pieceF;rw [if_pos h,if_pos h]
 ·rw [h]
def WalkP (J:Nat→World→Prop) (cont:Nat→Bool) (b E:Nat) (U S:List Nat) (lo hi lo' hi' f p:Nat) (T:CT) (sg:List Nat) (ls:List Int) (ss:List ByteArray) (w:World) (e:Ending) (w':World):Prop:=
 e=.returned (.tuple #[])∧(∃ k,8 * b≤k∧k≤E∧J k w'∧(∀ i,8 * b≤i→i+1 < k→cont i=true)∧(k=E ∨ ∃ i,i+1=k∧8 * b≤i∧cont i=false)) ∧
 ∃ S',Fro w' lo hi lo' hi' S' f p T sg ls ss∧Grow w S S'∧Kp (S ++ U) w w'
theorem fwalk_any (g b n E lo hi lo' hi' f p:Nat) (lb:Array Value) (S U:List Nat) (J:Nat→World→Prop) (cont:Nat→Bool) (T:CT) (sg:List Nat) (ls:List Int) (ss:List ByteArray) (w:World)
  (h:Fro w lo hi lo' hi' S f p T sg ls ss) (hn:ss.length=n) (hn9:n≤1000000) (hb:8 * b < n) (hE:E=min (8 * b+8) n)
  (eg:∀ args w,(callFunc g args).run Tryz.prog w=.ok (.enter g args) w)
  (hJ:J (8 * b) w) (hst:∀ k w1 w2 X,J k w1→Kp X w1 w2→(∀ x ∈ U,x ∉ X)→J k w2)
  (hU:∀ x ∈ U,x ∉ S∧(x < lo ∨ hi≤x)∧(x < lo' ∨ hi'≤x)∧x ≠ 0∧x < w.heap.size)
  (hcl:∀ k s w1,8 * b≤k→k < E→ss[k]? = some s→J k w1→Calls Tryz.prog g (#[.int .i64 (k:Int),.string s] ++ lb) w1 fun e w2=>e=.returned (.bool (cont k))∧J (k+1) w2∧Kp U w1 w2) :
  Calls Tryz.prog 85 #[.pointer (some ⟨f,0,none⟩),.int .i64 (b:Int),.func (.func g) #[] lb] w (WalkP J cont b E U S lo hi lo' hi' f p T sg ls ss w):=by
 obtain ⟨q,A,c,n',m,cc,hn',hm,hc0,hc1,hc2,hc3,hv,hmc,hr⟩:=h.fr.cells;obtain rfl:n'=n:=by omega
 obtain ⟨N,hN⟩:∃ N,(frontB T ss).length=N:=⟨_,rfl⟩;have hN16:N≤16777216:=by rw [← hN];exact hv.tail.2.2.2
 have hmb:b < m:=by rw [hm,starts_len];omega
 obtain ⟨a0,ha0⟩:∃ a0,(frontB T (ss.take (8 * b))).length=a0:=⟨_,rfl⟩;have haN:a0≤N:=by rw [← ha0,← hN];exact frontB_mono T ss _
 obtain ⟨ad,e,hadb,hca⟩:=hr.at_ (i:=b) (u:=.int .i64 (a0:Int)) (by
  unfold natV startsN;rw [List.map_map,List.getElem?_map,List.getElem?_range (by rw [hn];omega)]
  show some (Value.int .i64 (((frontB T (ss.take (8 * b))).length:Nat):Int))=_
  rw [ha0])
 subst e;have HFR:=Lib.hid h;have HN:=Lib.hid hn;have HNN:=Lib.hid hN;have HV:=Lib.hid hv;have HJ:=Lib.hid hJ;have HST:=Lib.hid hst;have HU:=Lib.hid hU;have HCL:=Lib.hid hcl;have HEE:=Lib.hid hE;have HA0:=Lib.hid ha0;have HC1:=Lib.hid hc1;have HW0:=Lib.hid h.hw;have HTL:=Lib.hid h.tab.lt;have hb0:(0:Int)≤(b:Int):=by omega
 have hb1:(b:Int) < (m:Int):=by omega
 have HFS:=Lib.hid (show f ∉ S∧(ad.add b).block ∉ S from by
  obtain ⟨_,_,q2,A2,c2,cc2,k3,_,_,_,_,_,k9,k10⟩:=h.fr;refine ⟨k9,?_⟩;rw [addr_add_block];rw [k3.cell] at hc2;refine k10 ad ?_
  simp at hc2
  exact hc2.1)
 clear h hn hN hv hJ hst hU hcl hE ha0 hn' hm hr hc0
 go_enter Tryz.func85,Tryz.ntmps85
 go_wp2_with fail
 go_region_held3 (fun w'=>w'.cell? ⟨f,1,none⟩=some (.pointer (some ⟨q,0,none⟩))∧w'.cell? ⟨f,2,none⟩=some (.slice (some ad) m c)∧w'.cell? (ad.add b)=some (.int .i64 (a0:Int))) (go_keep)
  (first
  | (go_at_call 136
     refine (rnew_yes S q N a0 (frontB T ss) cc w.drew (HV.out.kp0 ((Kp.refl [] w).drew)) HNN.out haN).mono ?_;rintro e w1 ⟨rp,rfl,hr1,hv1,hrp,hrpS,hk1'⟩;have hk1:Kp S w w1:=((Kp.refl S w).drew).trans hk1';have HR1:=Lib.hid hr1;have HV1:=Lib.hid hv1;have HRP:=Lib.hid (show w.heap.size≤rp from hrp);have HRS:=Lib.hid hrpS;have HK1:=Lib.hid hk1;have hc11:=HK1.out.cell hc1 HFS.out.1;have hc21:=HK1.out.cell hc2 HFS.out.1;have hca1:=HK1.out.cell hca HFS.out.2
     clear hr1 hv1 hrp hrpS hk1 hk1' hc1 hc2 hca))
 obtain ⟨hfr1,hq1⟩:=HFR.out.upd HC1.out HK1.out (fun g hm=>.inl hm) HV1.out (Grow.refl _ _);have HFR1:=Lib.hid hfr1;have HUS:=Lib.hid (show ∀ x ∈ U,x ∉ S from fun x hx=>(HU.out x hx).1);have HJ1:=Lib.hid (HST.out _ _ _ _ HJ.out HK1.out HUS.out);have HQ1:=Lib.hid hq1;have HRP1:=Lib.hid (show rp < w1.heap.size from Blk.lt HR1.out);have HKU:=Lib.hid (show Kp (S ++ U) w w1 from HK1.out.mono (fun x hx=>List.mem_append_left _ hx));have hbE:8 * b≤E:=by rw [HEE.out];omega
 have hEn:E≤n':=by rw [HEE.out];omega
 have hmin:min (((b:Int)+1) * 8) (n':Int)=(E:Int):=by rw [HEE.out];omega
 clear hfr1 hq1 hc11 hc21 hca1 HV1 hc3;go_wp2_with fail
 go_loopw [8,9] (fun y x wr=>∃ (k:Nat) (a:ByteArray) (S':List Nat),y=.string a∧x=.int .i64 (k:Int)∧8 * b≤k∧k≤E∧a.size≤1000000∧Hid (k % 8=0 ∨ txt a=prevT ss k)∧Hid (Fro wr lo hi lo' hi' S' f p T sg ls ss)∧Hid (wr.cell? ⟨f,1,none⟩=some (.pointer (some ⟨q,0,none⟩)))∧Hid (RdM wr rp q (frontB T (ss.take k)).length false)∧Hid (rp ∉ S')∧Hid (J k wr)∧Hid (∀ i,8 * b≤i→i < k→cont i=true)∧Hid (Grow w S S')∧Hid (Kp (S ++ U) w wr)) (fun _ x _=>E - (intOf x).toNat)
 case atStart=>exact ⟨8 * b,⟨#[]⟩,S,rfl,by go_num,Nat.le_refl _,hbE,by decide,Lib.hid (.inl (by omega)),HFR1,HQ1,Lib.hid (by rw [HA0.out];exact HR1.out),HRS,HJ1,Lib.hid (fun i h1 h2=>by omega),Lib.hid (Grow.refl _ _),HKU⟩
 case round =>
  clear HFR1 HQ1 HR1 HRS HJ1 HKU HFR HV HJ HK1 HC1 HFS;obtain ⟨k,a,S',rfl,rfl,hk1,hk2,haz,HPV,HF,HQ,HR,HRS,HJ,HCT,HG,HK⟩:=hrel
  have hc3:wr.cell? ⟨f,3,none⟩=some (.int .i64 (n':Int)):=by
   obtain ⟨_,_,_,nn,_,_,e1,_,_,_,_,e2,_⟩:=HF.out.fr.cells;rw [e2,e1,HN.out]
  have hc0:wr.cell? ⟨f,0,none⟩=some (.pointer (some ⟨p,0,none⟩)):=by
   obtain ⟨_,_,_,nn,_,_,_,_,e2,_⟩:=HF.out.fr.cells;exact e2
  have HC0:=Lib.hid hc0;clear hc0;by_cases hlt:k < E
  ·obtain ⟨s,hs⟩:∃ s,ss[k]? = some s:=⟨_,List.getElem?_eq_getElem (by rw [HN.out];omega)⟩;obtain ⟨⟨r,hr⟩,hsz⟩:=HF.out.tex s (List.mem_of_getElem? hs);have HS:=Lib.hid hs;obtain ⟨rest,hd⟩:=frontB_drop T hs;rw [← piece_first HPV.out] at hd;obtain ⟨rm,hrm⟩:∃ rm,rm=k % 8:=⟨_,rfl⟩;obtain ⟨fb,hfb⟩:∃ fb,fb=decide (k % 8=0):=⟨_,rfl⟩;have htm:Int.tmod (k:Int) 8=(rm:Int):=by rw [Int.tmod_eq_emod_of_nonneg (by omega)];omega
   have hrz:((rm:Int) == 0)=fb:=by
    rw [hfb,hrm];by_cases h:k % 8=0
    ·rw [h];rfl
    ·rw [decide_eq_false h];have:((k % 8:Nat):Int) ≠ 0:=by omega
     simpa using this
   have HNB:=Lib.hid (next_back HF.out.cd.1 (k:=k) (ahead:=txt a) hr hd (by rw [txt_len];omega));rw [← hfb] at HNB;have HNX:=Lib.hid (frontB_next T hs);rw [← piece_first HPV.out] at HNX;have HPS:=Lib.hid (prevT_succ hs);have hkE:(k:Int) < (E:Int):=by omega
   have hk0:(0:Int)≤(k:Int):=by omega
   obtain ⟨_,_,_,_,_,cc2,_,_,_,hq9,_,_,hv9,_,_⟩:=HF.out.fr.cells;rw [HQ.out] at hq9;injection hq9 with hq9
   injection hq9 with hq9
   injection hq9 with hq9
   injection hq9 with hq9
   subst hq9;have HV9:=Lib.hid hv9;have HAK:=Lib.hid (show (frontB T (ss.take k)).length≤N from by rw [← HNN.out];exact frontB_mono T ss k)
   have HFN:=Lib.hid (show f ∉ S'∧f ≠ rp∧0 ≠ rp∧hi'≤rp from by
    have h1:=HF.out.fr.2.1;have h2:=HRP.out;have h3:=HW0.out;have h4:=HTL.out;obtain ⟨_,_,_,_,_,_,_,_,_,_,_,_,h9,_⟩:=HF.out.fr
    exact ⟨h9,by omega,by omega,by omega⟩)
   have HUX:=Lib.hid (show ∀ x ∈ U,x ∉ rp :: S' from fun x hx hm=>by
    have h1:=HU.out x hx;have h2:=HRP.out;rcases List.mem_cons.1 hm with e | hm
    ·omega
    ·rcases HG.out x hm with h | h
     ·exact h1.1 h
     ·omega)
   clear hs hr hd hrm hfb hv9;go_wp2_with fail;refine (next_any lo' hi' f p rp q (frontB T (ss.take k)).length N S' false cc2 fb (frontB T ss) T sg ls a wr HC0.out HF.out.cd HR.out HV9.out HNN.out HAK.out HRS.out HFN.out.2.2.2 HF.out.cs HFN.out.1 HFN.out.2.1 haz HF.out.tab HF.out.tabS HFN.out.2.2.1).mono ?_;intro e w5 hp;rw [HNB.out] at hp;unfold NextP at hp
   dsimp only at hp
   rw [strN_txt] at hp;obtain ⟨rfl,hr5,S5,c5,hv5,hk5,hg5⟩:=hp;have hlen:(frontB T (ss.take k)).length+(pieceF T k (txt a) (txt s)).length=(frontB T (ss.take (k+1))).length:=by rw [HNX.out,List.length_append]
   rw [hlen] at hr5;have HR5:=Lib.hid hr5;obtain ⟨hf5,hq5⟩:=HF.out.upd HQ.out hk5 (fun g hm=>(List.mem_cons.1 hm).elim (fun e=>.inr (by have h1:=HRP.out;have h2:=HW0.out;have h3:=HFN.out;subst e;exact ⟨by omega,by omega,fun e=>h3.2.2.1 e.symm⟩)) .inl) hv5 hg5;have HF5:=Lib.hid hf5;have HQ5:=Lib.hid hq5
   have HG5:=Lib.hid (show Grow w S S5 from fun x hx=>by
    rcases hg5 x hx with h | h
    ·exact HG.out x h
    ·exact .inr (Nat.le_trans HK.out.size h))
   have HRS5:=Lib.hid (show rp ∉ S5 from fun hm=>by
    rcases hg5 rp hm with h | h
    ·exact HRS.out h
    ·have:=Blk.lt HR.out;omega)
   have HK5:=Lib.hid (show Kp (S ++ U) w w5 from HK.out.trans' hk5 (fun x hx=>by
    rcases List.mem_cons.1 hx with e | hx
    ·exact .inr (by rw [e];exact HRP.out)
    ·rcases HG.out x hx with h | h
     ·exact .inl (List.mem_append_left _ h)
     ·exact .inr h))
   have HJ5:=Lib.hid (HST.out _ _ _ _ HJ.out hk5 HUX.out)
   have HU5:=Lib.hid (show ∀ x ∈ U,x ∉ S5∧(x < lo ∨ hi≤x)∧(x < lo' ∨ hi'≤x)∧x ≠ 0 from fun x hx=>⟨fun hm=>by
    have h1:=HU.out x hx;rcases HG5.out x hm with h | h
    ·exact h1.1 h
    ·omega,(HU.out x hx).2.1,(HU.out x hx).2.2.1,(HU.out x hx).2.2.2.1⟩)
   have HFU:=Lib.hid (show f ∉ U∧rp ∉ U from ⟨fun hm=>by
    have h1:=(HU.out f hm).2.1;have h2:=HF.out.fr.1;have h3:=HF.out.fr.2.1
    omega,fun hm=>by
    have h1:=(HU.out rp hm).2.2.2.2;have h2:=HRP.out
    omega⟩)
   have hc:=HCL.out k s w5 hk1 hlt HS.out HJ5.out;clear hlen hr5 hf5 hq5 hv5 hk5 hg5 HR HF HQ HG HRS HK HJ HV9 HC0 HNB hrz htm
   cases hct:cont k <;> rw [hct] at hc
   ·have HCK:=Lib.hid hct;clear hct;go_wp2_with fail;refine hc.mono ?_;rintro e w6 ⟨rfl,hj6,hk6⟩;have HF6:=Lib.hid (HF5.out.kp hk6 HU5.out);have HJ6:=Lib.hid hj6;have HK6:=Lib.hid (show Kp (S ++ U) w w6 from HK5.out.trans' hk6 (fun x hx=>.inl (List.mem_append_right _ hx)));clear hj6 hk6 hc;go_wp2_with fail
    go_end0
    exact ⟨rfl,⟨k+1,by omega,by omega,HJ6.out,fun i h1 h2=>HCT.out i h1 (by omega),.inr ⟨k,rfl,hk1,HCK.out⟩⟩,S5,HF6.out,HG5.out,HK6.out⟩
   ·have HCK:=Lib.hid hct;clear hct;go_wp2_with fail;refine hc.mono ?_;rintro e w6 ⟨rfl,hj6,hk6⟩;have HF6:=Lib.hid (HF5.out.kp hk6 HU5.out);have HJ6:=Lib.hid hj6;have HK6:=Lib.hid (show Kp (S ++ U) w w6 from HK5.out.trans' hk6 (fun x hx=>.inl (List.mem_append_right _ hx)));have HQ6:=Lib.hid (hk6.cell HQ5.out HFU.out.1);have HR6:=Lib.hid (HR5.out.kp hk6 HFU.out.2)
    have HCT6:=Lib.hid (show ∀ i,8 * b≤i→i < k+1→cont i=true from fun i h1 h2=>by
     by_cases h:i=k
     ·rw [h];exact HCK.out
     ·exact HCT.out i h1 (by omega))
    clear hj6 hk6 hc;go_wp2_with fail;exact ⟨⟨k+1,s,S5,rfl,by go_num,by omega,by omega,hsz,Lib.hid (.inr HPS.out.symm),HF6,HQ6,HR6,HRS5,HJ6,HCT6,HG5,HK6⟩,by simp [intOf];omega⟩
  ·obtain rfl:k=E:=by omega
   go_wp2_with fail
   go_end0
   exact ⟨rfl,⟨k,hk1,Nat.le_refl _,HJ.out,fun i h1 h2=>HCT.out i h1 (by omega),.inl rfl⟩,S',HF.out,HG.out,HK.out⟩
theorem results_cell1 {P:Program} {fn:Func} {p:Tmp} {ty:TypeId} (h:fn.results=#[.cell p ty]) (tmps:Array Value) (w:World) (ad:Addr) (v:Value) (hp:tmps.getD p undef=.pointer (some ad)) (hc:w.cell? ad=some v) (ha:(isAgg ty).run P w=.ok false w):(results fn tmps).run P w=.ok v w:=by
 have hp':tmps[p]?.getD undef=.pointer (some ad):=by simpa using hp
 simp [results,h,hp',asAddr,loadVar,Sem.run_bind,ha,load]
 rw [Sem.run,hc];rfl
theorem agg_str (w:World):(isAgg 9).run Tryz.prog w=.ok false w:=by kernel_rfl
theorem agg_int (w:World):(isAgg 3).run Tryz.prog w=.ok false w:=by kernel_rfl
theorem agg_bool (w:World):(isAgg 4).run Tryz.prog w=.ok false w:=by kernel_rfl
theorem text1_any (o ii:Nat) (k i:Int) (s so:ByteArray) (w:World) (h1:Blk w o 9 [.string so]) (h2:Blk w ii 3 [.int .i64 i]) (hne:o ≠ ii) :
  Calls Tryz.prog 108 #[.int .i64 k,.string s,.pointer (some ⟨o,0,none⟩),.pointer (some ⟨ii,0,none⟩)] w fun e w'=>e=.returned (.bool (decide (k < i)))∧Blk w' o 9 [.string s]∧Kp [o] w w':=by
 have hc1:w.cell? ⟨o,0,none⟩=some (.string so):=by rw [h1.cell];rfl
 have hf1:=h1.free 0
 have hc2:(w.setCell ⟨o,0,none⟩ (.string s)).cell? ⟨ii,0,none⟩=some (.int .i64 i):=by
  rw [(h2.far (p:=⟨o,0,none⟩) (fun e=>hne e.symm) _).cell];rfl
 have H:=Lib.hid (show Blk (w.setCell ⟨o,0,none⟩ (.string s)) o 9 [.string s] from h1.set_ 0 _);have HK:=Lib.hid (show Kp [o] w (w.setCell ⟨o,0,none⟩ (.string s)) from (Kp.refl _ _).setCell (.inl (by simp)) _);clear h1 h2
 go_enter Tryz.func108,Tryz.ntmps108
 go_wp2_with fail;go_ret;exact ⟨rfl,H.out,HK.out⟩
theorem head1_any (o:Nat) (k:Int) (s so:ByteArray) (w:World) (h1:Blk w o 9 [.string so]) :
  Calls Tryz.prog 135 #[.int .i64 k,.string s,.pointer (some ⟨o,0,none⟩)] w fun e w'=>e=.returned (.bool false)∧Blk w' o 9 [.string s]∧Kp [o] w w':=by
 have hc1:w.cell? ⟨o,0,none⟩=some (.string so):=by rw [h1.cell];rfl
 have hf1:=h1.free 0;have H:=Lib.hid (show Blk (w.setCell ⟨o,0,none⟩ (.string s)) o 9 [.string s] from h1.set_ 0 _);have HK:=Lib.hid (show Kp [o] w (w.setCell ⟨o,0,none⟩ (.string s)) from (Kp.refl _ _).setCell (.inl (by simp)) _);clear h1
 go_enter Tryz.func135,Tryz.ntmps135
 go_wp2_with fail;go_ret;exact ⟨rfl,H.out,HK.out⟩

def FroP (w w':World) (S:List Nat) (lo hi lo' hi' f p:Nat) (T:CT) (sg:List Nat) (ls:List Int) (ss:List ByteArray):Prop:=∃ S',Fro w' lo hi lo' hi' S' f p T sg ls ss∧Grow w S S'∧Kp S w w'
theorem Fro.lt {w:World} {lo hi lo' hi' f p:Nat} {S:List Nat} {T:CT} {sg:List Nat} {ls:List Int} {ss:List ByteArray} (h:Fro w lo hi lo' hi' S f p T sg ls ss):∀ g ∈ S,g < w.heap.size:=by
 obtain ⟨_,_,_,_,_,_,_,hv,_⟩:=h.fr;exact hv.lt
theorem Fro.new {w:World} {lo hi lo' hi' f p:Nat} {S:List Nat} {T:CT} {sg:List Nat} {ls:List Int} {ss:List ByteArray} (h:Fro w lo hi lo' hi' S f p T sg ls ss) {o:Nat} (ho:w.heap.size≤o):o ∉ S∧(o < lo ∨ hi≤o)∧(o < lo' ∨ hi'≤o)∧o ≠ 0:=by
 have h1:=h.hw;have h2:=h.tab.lt;exact ⟨fun hm=>by have:=h.lt o hm;omega,.inr (by omega),.inr (by omega),by omega⟩
theorem fhead_any (b n lo hi lo' hi' f p:Nat) (S:List Nat) (T:CT) (sg:List Nat) (ls:List Int) (ss:List ByteArray) (s:ByteArray) (w:World) (h:Fro w lo hi lo' hi' S f p T sg ls ss) (hn:ss.length=n) (hn9:n≤1000000) (hs:ss[8 * b]? = some s) :
  Calls Tryz.prog 84 #[.pointer (some ⟨f,0,none⟩),.int .i64 (b:Int)] w fun e w'=>e=.returned (.string s)∧FroP w w' S lo hi lo' hi' f p T sg ls ss:=by
 have hb:8 * b < n:=by rw [← hn];exact (List.getElem?_eq_some_iff.1 hs).1
 have HF:=Lib.hid h;have HN:=Lib.hid hn;have HS:=Lib.hid hs;clear h hn hs
 go_enter Tryz.func84,Tryz.ntmps84
 go_wp2_with fail;obtain ⟨o,ho⟩:∃ o,o=w.heap.size:=⟨_,rfl⟩;obtain ⟨w0,hw0⟩:∃ w0,w0=w.alloc (.cells #[.string ⟨#[]⟩] 9):=⟨_,rfl⟩;rw [← hw0,← ho];have hk0:Kp [] w w0:=by rw [hw0];exact (Kp.refl [] w).alloc _
 have hb0:Blk w0 o 9 [.string ⟨#[]⟩]:=by rw [hw0,ho];exact Blk.new w 9 [.string ⟨#[]⟩]
 have hnew:=HF.out.new (o:=o) (by omega)
 refine (fwalk_any 135 b n (min (8 * b+8) n) lo hi lo' hi' f p #[.pointer (some ⟨o,0,none⟩)] S [o] (fun k w'=>∃ so,Blk w' o 9 [.string so]∧(8 * b < k→ss[k - 1]? = some so)) (fun _=>false) T sg ls ss w0 (HF.out.kp0 hk0) HN.out hn9 hb rfl (enters_fn Tryz.func135 (by kernel_rfl) rfl)
  ⟨_,hb0,fun h=>by omega⟩ (fun k w1 w2 X h1 h2 h3=>by obtain ⟨so,a1,a2⟩:=h1;exact ⟨so,a1.kp h2 (h3 o (by simp)),a2⟩)
  (fun x hx=>by rw [List.mem_singleton.1 hx];exact ⟨hnew.1,hnew.2.1,hnew.2.2.1,hnew.2.2.2,hb0.lt⟩)
  (fun k t w1 h1 h2 h3 h4=>by
   obtain ⟨so,a1,_⟩:=h4;refine (head1_any o (k:Int) t so w1 a1).mono ?_;rintro e w2 ⟨rfl,c1,c2⟩
   exact ⟨rfl,⟨t,c1,fun _=>by rw [Nat.add_sub_cancel];exact h3⟩,c2⟩)).mono ?_
 rintro e w1 ⟨rfl,⟨k,k1,k2,⟨so,d1,d2⟩,k3,k4⟩,S',hf1,hg1,hk1⟩
 have hk:8 * b < k:=by
  rcases k4 with k4 | ⟨i,i1,i2,_⟩
  ·omega
  ·omega
 have hk8:k=8 * b+1:=by
  by_cases h:8 * b+1 < k
  ·have:=k3 (8 * b) (Nat.le_refl _) h
   cases this
  ·omega
 have hso:so=s:=by
  have:=d2 hk;rw [hk8,Nat.add_sub_cancel,HS.out] at this;injection this with this
  exact this.symm
 subst hso;have hks:Kp [o] w1 (w1.setCell ⟨o,0,none⟩ (.string so)):=(Kp.refl _ _).setCell (.inl (by simp)) _
 have hnew1:∀ g ∈ [o],g ∉ S'∧(g < lo ∨ hi≤g)∧(g < lo' ∨ hi'≤g)∧g ≠ 0:=fun g hg=>by
  rw [List.mem_singleton.1 hg];refine ⟨fun hm=>?_,hnew.2.1,hnew.2.2.1,hnew.2.2.2⟩;rcases hg1 o hm with h | h
  ·exact hnew.1 h
  ·have:=hb0.lt;omega
 have HEND:=Lib.hid (show FroP w (w1.setCell ⟨o,0,none⟩ (.string so)) S lo hi lo' hi' f p T sg ls ss from ⟨S',hf1.kp hks hnew1,fun g hm=>(hg1 g hm).elim .inl (fun h=>.inr (Nat.le_trans hk0.size h)),((hk0.mono (by simp):Kp S w w0).trans' hk1 (fun x hx=>by
  rcases List.mem_append.1 hx with h | h
  ·exact .inl h
  ·exact .inr (by rw [List.mem_singleton.1 h];omega))).trans' hks (fun x hx=>.inr (by rw [List.mem_singleton.1 hx];omega))⟩)
 have hcc:w1.cell? ⟨o,0,none⟩=some (.string so):=by rw [d1.cell];rfl
 have hff:=d1.free 0;have hcd:(w1.setCell ⟨o,0,none⟩ (.string so)).cell? ⟨o,0,none⟩=some (.string so):=by rw [(d1.set_ 0 (.string so)).cell];rfl
 clear hw0 ho hk0 hb0 hnew k1 k2 k3 k4 d1 d2 hf1 hg1 hk1 hk hk8 hks hnew1;go_wp2_with fail
 (try simp only [Exit.inBlock,Exit.then])
 exact bodyPost_ret (v:=.string so) (results_cell1 rfl _ _ ⟨o,0,none⟩ _ rfl hcd (agg_str _)) rfl ⟨rfl,HEND.out⟩
end Go.Proofs.YtanacapkfllbnaaGreatDoor
namespace Go.Proofs.YtanacapkfllbnaaGreatDoor

theorem enc_ge {T:CT} {sg:List Nat} {ls:List Int} (h:CodeT T sg ls):∀ {l:List Nat} {r:List Bool},T.enc l=some r→l.length≤r.length
 | [],_,_=>Nat.zero_le _
 | s :: l,r,hr=>by
   obtain ⟨w,v,hw,hv,rfl⟩:=enc_cons hr;have h1:=enc_ge h hv;have h2:0 < w.length:=List.length_pos_iff.2 (word_ne h hw);rw [List.length_cons,List.length_append];omega
theorem getC_back {T:CT} {sg:List Nat} {ls:List Int} (h:CodeT T sg ls):∀ (l:List Bool) (cur:CT) (p:List Bool) (out:List Nat),T.sub p=cur→(getC T cur out l).2.1=0 →
  ∃ t,(getC T cur out l).1=out ++ t∧T.enc (sgs t)=some (p ++ l.take (getC T cur out l).2.2.1)∧(getC T cur out l).2.2.2=false∧∀ x ∈ t,x < 256
 | [],cur,p,out,_,h0=>by rw [getC_nil] at h0;cases h0
 | b :: l,cur,p,out,hp,h0=>by
   have hsub:T.sub (p ++ [b])=cur.kid b:=by rw [CT.sub_app,hp];rfl
   cases hk:cur.kid b with
   | nil=>rw [getC_none hk] at h0;cases h0
   | leaf s =>
     have hw:T.word s=some (p ++ [b]):=(word_sub h).2 (by rw [hsub,hk])
     cases s with
     | zero =>
       rw [getC_end hk];exact ⟨[],by simp,by have:=enc_mk hw (show T.enc []=some [] from rfl);simpa [sgs] using this,rfl,by simp⟩
     | succ s =>
       rw [getC_leaf hk] at h0 ⊢;obtain ⟨t,h1,h2,h3,h4⟩:=getC_back h l T [] (out ++ [s]) (CT.sub_nil T) h0;refine ⟨s :: t,by simp only [h1,List.append_assoc,List.singleton_append],?_,h3,?_⟩
       ·have:=enc_mk hw h2;simpa [sgs] using this
       ·intro x hx;rcases List.mem_cons.1 hx with rfl | hx
        ·have:=h.2.2.2.1 _ (word_mem h hw);omega
        ·exact h4 x hx
   | node x y =>
     rw [getC_node hk] at h0 ⊢;obtain ⟨t,h1,h2,h3,h4⟩:=getC_back h l (.node x y) (p ++ [b]) out (by rw [hsub,hk]) h0;exact ⟨t,h1,by rw [h2];simp,h3,h4⟩
theorem getF_back {T:CT} {sg:List Nat} {ls:List Int} (h:CodeT T sg ls) {L:List Bool} {a:Nat} (ha:a≤L.length) (h0:(getF T L a false).2.1=0) :
  ∃ v,T.enc (sgs (getF T L a false).1)=some v∧v.length=(getF T L a false).2.2.1∧a+v.length≤L.length∧(getF T L a false).1.length+1≤v.length∧(getF T L a false).2.2.2=false∧∀ x ∈ (getF T L a false).1,x < 256:=by
 unfold getF at h0 ⊢;rw [if_neg (by simp)] at h0 ⊢;obtain ⟨t,h1,h2,h3,h4⟩:=getC_back h (L.drop a) T [] [] (CT.sub_nil T) h0;rw [List.nil_append] at h1 h2;have hl:=getC_len T (L.drop a) T [];have hlen:((L.drop a).take (getC T T [] (L.drop a)).2.2.1).length=(getC T T [] (L.drop a)).2.2.1:=by rw [List.length_take];omega
 rw [List.length_drop] at hl;rw [h1];have hge:=enc_ge h h2;unfold sgs at hge;rw [List.length_append,List.length_map] at hge;exact ⟨_,h2,hlen,by rw [hlen];omega,hge,h3,h4⟩
theorem next_spec {T:CT} {sg:List Nat} {ls:List Int} (h:CodeT T sg ls) {L:List Bool} {a:Nat} {ahead:List Nat} {first:Bool} (ha:a≤L.length) (h0:(nextF T L a false ahead first).1.2=0) :
  ∃ k rest v,(nextF T L a false ahead first).1.1=ahead.take k ++ rest∧k≤ahead.length∧(first=true→k=0)∧T.enc (sgs rest)=some v∧rest.length+1≤v.length∧a+v.length≤(nextF T L a false ahead first).2.1∧(nextF T L a false ahead first).2.1≤L.length∧(nextF T L a false ahead first).2.2=false∧∀ x ∈ rest,x < 256:=by
 have hg:a≤(gamR L a false first).2.1∧(gamR L a false first).2.1≤L.length:=by
  unfold gamR
  split
  ·exact ⟨Nat.le_refl _,ha⟩
  ·refine ⟨?_,rGam_le ha⟩;unfold rGam;rw [if_neg (by simp)]
   split
   ·exact Nat.le_refl _
   ·simp only;omega
 have hf:first=true→(gamR L a false first).1.toNat=0:=by
  intro e;unfold gamR;rw [if_pos e];rfl
 unfold nextF at h0 ⊢
 split at h0
 ·cases h0
 ·rename_i hc
  rw [if_neg hc];simp only at h0 ⊢
  obtain ⟨v,h1,h2,h3,h4,h5,h6⟩:=getF_back h hg.2 h0;refine ⟨(gamR L a false first).1.toNat,_,v,rfl,by omega,hf,h1,h4,by omega,by omega,h5,h6⟩
def readK (T:CT) (L:List Bool):Nat→Option (List ByteArray × Nat)
 | 0=>some ([],0)
 | k+1=>match readK T L k with
   | none=>none
   | some x=>if (nextF T L x.2 false ((x.1.map txt).getLastD []) (decide (k % 8=0))).1.2=0 then some (x.1 ++ [strN (nextF T L x.2 false ((x.1.map txt).getLastD []) (decide (k % 8=0))).1.1],(nextF T L x.2 false ((x.1.map txt).getLastD []) (decide (k % 8=0))).2.1) else none
theorem readK_none {T:CT} {L:List Bool} {k:Nat} (h:readK T L k=none):readK T L (k+1)=none:=by rw [readK,h]
theorem readK_mono {T:CT} {L:List Bool} {k j:Nat} (h:readK T L k=none) (hj:k≤j):readK T L j=none:=by
 induction j with
 | zero=>rw [show k=0 by omega] at h;exact h
 | succ j ih =>
   by_cases e:k=j+1
   ·rw [← e];exact h
   ·exact readK_none (ih (by omega))
theorem alikeN_pre:∀ (x a b:List Nat),x.length≤alikeN (x ++ a) (x ++ b)
 | [],_,_=>Nat.zero_le _
 | c :: x,a,b=>by
   rw [List.cons_append,List.cons_append];unfold alikeN;rw [if_pos rfl,List.length_cons];have:=alikeN_pre x a b;omega
theorem txt_strN {l:List Nat} (h:∀ x ∈ l,x < 256):txt (strN l)=l:=by
 unfold txt strN;simp only [List.map_map]
 conv=>rhs;rw [← List.map_id l]
 apply List.map_congr_left
 intro x hx;have:=h x hx
 simp [UInt8.toNat_ofNat']
 omega
structure ReadOk (T:CT) (L:List Bool) (k:Nat) (ts:List ByteArray) (a:Nat):Prop where
 len:ts.length=k
 le:a≤L.length
 ka:k≤a
 sz:∀ s ∈ ts,s.size≤a
 en:∀ s ∈ ts,∃ r,encT T s=some r
 fb:∀ j,(frontB T (ts.take j)).length≤41 * a
theorem readK_ok {T:CT} {sg:List Nat} {ls:List Int} (h:CodeT T sg ls) {L:List Bool} (hL:L.length≤100000):∀ {k:Nat} {ts:List ByteArray} {a:Nat},readK T L k=some (ts,a)→ReadOk T L k ts a
 | 0,ts,a,hr=>by
   rw [readK] at hr;injection hr with hr
   injection hr with h1 h2
   subst h1 h2;exact ⟨rfl,Nat.zero_le _,Nat.le_refl _,by simp,by simp,by simp [frontB,frontL_nil]⟩
 | k+1,ts,a,hr=>by
   rw [readK] at hr
   cases hk:readK T L k with
   | none=>rw [hk] at hr;cases hr
   | some x =>
     obtain ⟨us,b⟩:=x;rw [hk] at hr;simp only at hr
     have ih:=readK_ok h hL hk
     split at hr
     ·rename_i h0
      injection hr with hr
      injection hr with h1 h2
      obtain ⟨m,rest,v,e1,e2,e3,e4,e5,e6,e7,e8,e9⟩:=next_spec h ih.le h0;obtain ⟨ahd,hahd⟩:∃ ahd,ahd=(us.map txt).getLastD []:=⟨_,rfl⟩;rw [← hahd] at h1 h2 e1 e2 e6 e7 h0
      have ha8:∀ x ∈ ahd,x < 256:=by
       rw [hahd];intro x hx;rcases List.eq_nil_or_concat us with rfl | ⟨vs,u,rfl⟩
       ·simp at hx
       ·simp at hx
        exact txt_lt u x hx
      have hasz:ahd.length≤b:=by
       rw [hahd];rcases List.eq_nil_or_concat us with rfl | ⟨vs,u,rfl⟩
       ·simp
       ·simp
        rw [txt_len];exact ih.sz u (by simp)
      have haen:m=0 ∨ ∃ r,T.enc (sgs ahd)=some r:=by
       rw [hahd] at e2 ⊢;rcases List.eq_nil_or_concat us with rfl | ⟨vs,u,rfl⟩
       ·left;simp at e2;exact e2
       ·right
        obtain ⟨r,hr⟩:=ih.en u (by simp)
        simp
        exact ⟨r,hr⟩
      have ht:txt (strN (ahd.take m ++ rest))=ahd.take m ++ rest:=txt_strN (fun x hx=>(List.mem_append.1 hx).elim (fun hx=>ha8 x (List.mem_of_mem_take hx)) (e9 x));rw [e1] at h1;subst h1 h2;have htl:(ahd.take m).length=m:=by rw [List.length_take];omega
      have hen:∃ r,T.enc (sgs (ahd.take m ++ rest))=some r:=by
       have es:sgs (ahd.take m ++ rest)=(ahd.take m).map (· + 1) ++ sgs rest:=by unfold sgs;simp
       rw [es,enc_app,e4];rcases haen with rfl | ⟨r,hr⟩
       ·exact ⟨_,by rw [List.take_zero];rfl⟩
       ·rw [sgs_drop ahd m,enc_app] at hr
        cases hq:T.enc ((ahd.take m).map (· + 1)) with
        | none=>rw [hq] at hr;cases hr
        | some q=>exact ⟨_,rfl⟩
      have hpc:(pieceF T k ahd (ahd.take m ++ rest)).length≤v.length+40:=by
       unfold pieceF
       split
       ·rename_i hk8
        have:=e3 (decide_eq_true hk8);subst this;unfold encD;rw [List.take_zero,List.nil_append,List.drop_zero,e4]
        show v.length≤_
        omega
       ·obtain ⟨al,hal⟩:∃ al,alikeN ahd (ahd.take m ++ rest)=al:=⟨_,rfl⟩
        have hma:m≤al:=by
         have:=alikeN_pre (ahd.take m) (ahd.drop m) rest;rw [List.take_append_drop,htl,hal] at this;exact this
        have hal2:al≤ahd.length:=by rw [← hal];exact (alikeN_le _ _).1
        rw [hal,List.length_append];have hb2:al+1 < 2 ^ 20:=Nat.lt_of_le_of_lt (show _≤100001 by have:=ih.le;omega) (by decide);have hbl:bl (al+1)≤20:=(bl_le_iff (Nat.lt_trans hb2 (by decide)) (by omega)).2 hb2
        have hg:(gamL (al+1)).length≤40:=by
         rw [gamL_len (Nat.lt_trans hb2 (by decide)) (by omega)];omega
        have hd:(encD T (ahd.take m ++ rest) al).length≤v.length:=by
         unfold encD;rw [List.drop_append,List.drop_of_length_le (by rw [htl];exact hma),List.nil_append,htl];obtain ⟨u,v',h1,h2⟩:=enc_rest e4 (al - m);rw [h1,h2]
         show v'.length≤_
         rw [List.length_append];omega
        omega
      refine ⟨by rw [List.length_append,ih.len];rfl,e7,by have:=ih.ka;omega,?_,?_,?_⟩
      ·intro s hs;rcases List.mem_append.1 hs with hs | hs
       ·have:=ih.sz s hs;omega
       ·simp at hs
        subst hs;rw [← txt_len,ht,List.length_append,htl];omega
      ·intro s hs;rcases List.mem_append.1 hs with hs | hs
       ·exact ih.en s hs
       ·simp at hs
        subst hs;unfold encT;rw [ht];exact hen
      ·intro j;by_cases hj:j≤us.length
       ·rw [List.take_append_of_le_length hj];have:=ih.fb j;omega
       ·rw [List.take_of_length_le (by rw [List.length_append];simp;omega)];have h5:=ih.fb us.length;rw [List.take_length] at h5
        have e:frontB T (us ++ [strN (ahd.take m ++ rest)])=frontB T us ++ pieceF T k ahd (ahd.take m ++ rest):=by
         unfold frontB;rw [List.map_append,List.map_singleton,frontL_snoc,Nat.zero_add,List.length_map,ih.len,ht,← hahd]
        rw [e,List.length_append];omega
     ·cases hr
end Go.Proofs.YtanacapkfllbnaaGreatDoor
namespace Go.Proofs.YtanacapkfllbnaaGreatDoor
open Go.RowKit

theorem words_get {T:CT} {sg:List Nat} {ls:List Int} (h:CodeT T sg ls) {i s:Nat} (hs:sg[i]? = some s):s < 257∧∃ u,T.word s=some u∧(wordsT T)[i]? = some u∧T.sub u=.leaf s∧1≤u.length∧u.length≤256:=by
 obtain ⟨u,h1,h2,_⟩:=word_at h hs;have hb:=h.2.2.2.1 s (List.mem_of_getElem? hs);refine ⟨by omega,u,h1,by unfold wordsT;rw [List.getElem?_map,h2];rfl,(word_sub h).1 h1,?_,word_len h h1⟩;exact List.length_pos_iff.2 (word_ne h h1)
theorem sub_words {T:CT} {l:List Bool} {s:Nat} (hl:T.sub l=.leaf s):l ∈ wordsT T:=by
 have hm:(s,l) ∈ T.al []:=mem_al.2 ⟨l,rfl,hl⟩;exact List.mem_map.2 ⟨_,hm,rfl⟩
theorem WRow.get {w:World} {P:Nat→Prop} {hi:Nat} {ws:List (List Bool)} {l:List Value} {B:Nat} {A:Addr} (h:WRow w P hi ws l) (hr:Rd w B (some A) l) {i:Nat} {u:List Bool} (hu:ws[i]? = some u) :
  ∃ (ad:Addr) (c:Nat),w.cell? (A.add i)=some (.slice (some ad) u.length c)∧u.length≤c∧P ad.block∧ad.block < hi∧Rd w hi (some ad) (u.map .bool):=by
 obtain ⟨ad,c,h1,h2,h3,h4,h5⟩:=h.2 i u hu;obtain ⟨a2,e1,_,e2⟩:=hr.at_ h1;injection e1 with e1
 subst e1;exact ⟨ad,c,e2,h2,h3,h4,h5⟩
theorem natRr {w:World} {B:Nat} {A:Option Addr} {sg:List Nat} (h:Rd w B A (sg.map fun (x:Nat)=>.int .i64 (x:Int))) {k:Nat} (hk:k < sg.length):∃ s ad,sg[k]? = some s∧A=some ad∧ad.block < B∧w.cell? (ad.add k)=some (.int .i64 (s:Int)):=by
 obtain ⟨ad,h1,h2,h3⟩:=h.at_ (i:=k) (u:=.int .i64 (sg[k]:Int)) (by rw [List.getElem?_map,List.getElem?_eq_getElem hk];rfl);exact ⟨_,ad,List.getElem?_eq_getElem hk,h1,h2,h3⟩
theorem rword_any (lo hi p:Nat) (k:Int) (T:CT) (sg:List Nat) (ls:List Int) (w:World) (h:RCode w lo hi p T sg ls) :
  Calls Tryz.prog 142 #[.pointer (some ⟨p,0,none⟩),.int .i64 k] w fun e w'=>(∃ v,e=.returned v∧WordV w (fun g=>lo≤g) hi (wdI T k) v)∧w=w':=by
 obtain ⟨n,A1,A2,A3,c1,c2,c3,l,hn,hsl,hwn,q0,_,q2,hc1,_,hc3,r1,_,r3,hw⟩:=h.cells;have hnb:n≤257:=by rw [hn];exact codeT_len h.1
 have HR1:=Lib.hid r1;have HR3:=Lib.hid r3;have HW:=Lib.hid hw;have HN:=Lib.hid hn;have HT:=Lib.hid h.1;clear h r1 r3 hw hn hsl hwn
 go_enter Tryz.func142,Tryz.ntmps142
 go_wp2_with fail
 go_loopw [5] (fun i wr=>∃ j:Nat,i=.int .i64 (j:Int)∧j≤n∧Hid (∀ i s,i < j→sg[i]? = some s→(s:Int) ≠ k)∧w=wr) (fun i _=>n - (intOf i).toNat)
 case atStart=>exact ⟨0,rfl,by omega,Lib.hid (fun i s hi=>by omega),rfl⟩
 case round =>
  obtain ⟨j,rfl,hj,HA,rfl⟩:=hrel;by_cases hlt:j < n
  ·obtain ⟨s,ad,hs,e,_,hcs⟩:=natRr HR1.out (k:=j) (by rw [← HN.out];exact hlt);injection e with e
   subst e;obtain ⟨hs7,u,hu1,hu2,hu3,hu4,hu5⟩:=words_get HT.out hs;obtain ⟨ad,cu,hcu,hle,hP,hhi,hru⟩:=HW.out.get HR3.out hu2;have hb0:(0:Int)≤(j:Int):=by omega
   have hb1:(j:Int) < (n:Int):=by omega
   by_cases hk:(s:Int)=k
   ·subst hk
    have HV:=Lib.hid (show WordV w (fun g=>lo≤g) hi (wdI T (s:Int)) (.slice (some ad) u.length cu) from by
     unfold wdI;rw [if_pos (by omega),Int.toNat_natCast,hu1]
     exact ⟨ad,cu,rfl,hle,hP,hhi,hru⟩)
    obtain ⟨nu,hnu⟩:∃ nu,nu=u.length:=⟨_,rfl⟩;rw [← hnu] at hcu HV;clear hs hu1 hu2 hu3 hnu hru hu4 hu5 hle hP hhi;go_wp2_with fail;go_ret;exact ⟨⟨_,rfl,HV.out⟩,rfl⟩
   ·have hkd:((s:Int) == k)=false:=by simpa using hk
    have HA2:=Lib.hid (show ∀ i s,i < j+1→sg[i]? = some s→(s:Int) ≠ k from fun i s' hi hs'=>by
     by_cases hij:i=j
     ·subst hij;rw [hs] at hs';injection hs' with hs'
      subst hs';exact hk
     ·exact HA.out i s' (by omega) hs')
    clear hs hu1 hu2 hu3 hru hu4 hu5 hle hP hhi hk hcu;go_wp2_with fail;exact ⟨⟨j+1,by go_num,by omega,HA2,trivial⟩,by simp [intOf];omega⟩
  ·obtain rfl:j=n:=by omega
   have HV:=Lib.hid (show wdI T k=none from by
    unfold wdI
    split
    ·rename_i hk
     refine word_none HT.out (fun hm=>?_);obtain ⟨i,hi,he⟩:=List.getElem_of_mem hm;exact HA.out i k.toNat (by rw [HN.out];exact hi) (by rw [List.getElem?_eq_getElem hi,he]) (by omega)
    ·rfl)
   go_wp2_with fail;go_ret;exact ⟨⟨_,rfl,by rw [HV.out];rfl⟩,rfl⟩
def atV (T:CT) (l:List Bool):Int:=match T.sub l with | .leaf s=>(s:Int) | _=>-1
theorem rat6_any (lo hi p nl cl B:Nat) (Al:Option Addr) (l:List Bool) (T:CT) (sg:List Nat) (ls:List Int) (w:World) (h:RCode w lo hi p T sg ls) (hx:Rd w B Al (l.map .bool)) (hn:l.length=nl) (hb:nl≤1000000000) :
  Calls Tryz.prog 167 #[.pointer (some ⟨p,0,none⟩),.slice Al nl cl] w fun e w'=>e=.returned (.int .i64 (atV T l))∧Dr w w':=by
 obtain ⟨n,A1,A2,A3,c1,c2,c3,lw,hsn,hsl,hwn,q0,_,q2,hc1,_,hc3,r1,_,r3,hw⟩:=h.cells;have hnb:n≤257:=by rw [hsn];exact codeT_len h.1
 have HR1:=Lib.hid r1;have HR3:=Lib.hid r3;have HW:=Lib.hid hw;have HSN:=Lib.hid hsn;have HWN:=Lib.hid hwn;have HT:=Lib.hid h.1;have HX:=Lib.hid hx;have HN:=Lib.hid hn;have Q0:=Lib.hid q0;have Q2:=Lib.hid q2;clear h r1 r3 hw hsn hsl hwn hx hn q0 q2
 go_enter Tryz.func167,Tryz.ntmps167
 go_wp2_with fail
 go_loopw [5] (fun i wr=>∃ j:Nat,i=.int .i64 (j:Int)∧j≤n∧Hid (∀ i u,i < j→(wordsT T)[i]? = some u→u ≠ l)∧Dr w wr) (fun i _=>n - (intOf i).toNat)
 case atStart=>exact ⟨0,rfl,by omega,Lib.hid (fun i s hi=>by omega),Dr.refl w⟩
 case round =>
  obtain ⟨j,rfl,hj,HA,hd⟩:=hrel;have hkd:=hd.kp [];have q0:=hkd.cell Q0.out (by simp);have q2:=hkd.cell Q2.out (by simp);by_cases hlt:j < n
  ·obtain ⟨s,ad1,hs,e,_,hcs⟩:=natRr (HR1.out.kp0 hkd) (k:=j) (by rw [← HSN.out];exact hlt);injection e with e
   subst e;obtain ⟨hs7,u,hu1,hu2,hu3,hu4,hu5⟩:=words_get HT.out hs;obtain ⟨ad,cu,hcu,hle,_,_,hru⟩:=(HW.out.kp hkd (by simp)).get (HR3.out.kp0 hkd) hu2;have HU2:=Lib.hid hu2;have HU3:=Lib.hid hu3;have HRU:=Lib.hid hru;obtain ⟨nu,hnu⟩:∃ nu,u.length=nu:=⟨_,rfl⟩;rw [hnu] at hcu hle hu5;have HNU:=Lib.hid hnu;have hb0:(0:Int)≤(j:Int):=by omega
   have hb1:(j:Int) < (n:Int):=by omega
   clear hu1 hu2 hu3 hu4 hru hnu hs hkd;obtain ⟨wj,rfl⟩:∃ wj,wj=wr:=⟨_,rfl⟩;have hdd:=hd;have HD:=Lib.hid hdd;clear hdd hd;obtain ⟨d0,hd0⟩:∃ d0,d0=decide (nu=nl):=⟨_,rfl⟩
   have HEQ:((nu:Int) == (nl:Int))=d0:=by
    rw [hd0];by_cases h:nu=nl
    ·subst h;simp
    ·have h2:(nu:Int) ≠ (nl:Int):=by omega
     rw [decide_eq_false h];simpa using h2
   have HD0:=Lib.hid hd0;clear hd0;go_wp2_with fail
   go_loopw [6,7] (fun b i wr=>∃ (k:Nat) (d:Bool),i=.int .i64 (k:Int)∧b=.bool d∧k≤nl∧Hid (d=true→nu=nl∧u.take k=l.take k)∧Hid (d=false→u ≠ l)∧Dr wj wr) (fun _ i _=>nl - (intOf i).toNat)
   case atStart=>exact ⟨0,d0,rfl,rfl,by omega,Lib.hid (fun h=>⟨of_decide_eq_true (HD0.out ▸ h),by simp⟩),Lib.hid (fun h e=>by have:=of_decide_eq_false (HD0.out ▸ h);rw [e,HN.out] at HNU;exact this HNU.out.symm),Dr.refl _⟩
   case round =>
    clear HEQ;obtain ⟨k,d,rfl,rfl,hk,HD1,HD2,hdk⟩:=hrel;have hkk:=hdk.kp [];have q2k:=hkk.cell q2 (by simp);have q0k:=hkk.cell q0 (by simp);have hcuk:=hkk.cell hcu (by simp);have hcsk:=hkk.cell hcs (by simp)
    cases d with
    | true =>
      obtain ⟨rfl,htk⟩:=HD1.out rfl;by_cases hkl:k < nu
      ·obtain ⟨x,ad9,hxk,e9,_,hcx⟩:=(HRU.out.kp0 hkk).bl (k:=k) (by rw [HNU.out];exact hkl);injection e9 with e9
       subst e9;obtain ⟨y,bd,hyk,rfl,_,hcy⟩:=(HX.out.kp0 (HD.out.kp [] |>.trans hkk)).bl (k:=k) (by rw [HN.out];exact hkl);have hkb0:(0:Int)≤(k:Int):=by omega
       have hkb1:(k:Int) < (nu:Int):=by omega
       have HE:=Lib.hid (show (x == y)=true→nu=nu∧u.take (k+1)=l.take (k+1) from fun e=>⟨rfl,by rw [take_succ_of hxk,take_succ_of hyk,htk,eq_of_beq e]⟩)
       have HE2:=Lib.hid (show (x == y)=false→u ≠ l from fun e e2=>by
        rw [e2,hyk] at hxk;injection hxk with hxk
        subst hxk
        simp at e)
       clear htk hxk hyk hkk;go_wp2_with fail
       go_quiet (fail)
       go_wp2_with fail
       go_roundw
       case rel=>exact ⟨k+1,x == y,by go_num,rfl,by omega,HE,HE2,hdk.drewN _⟩
       case measure=>simp [intOf];omega
      ·obtain rfl:k=nu:=by omega
       have HUL:=Lib.hid (show u=l from by
        rwa [List.take_of_length_le (by rw [HNU.out];exact Nat.le_refl _),List.take_of_length_le (by rw [HN.out];exact Nat.le_refl _)] at htk)
       have HAT:=Lib.hid (show atV T l=(s:Int) from by unfold atV;rw [← HUL.out,HU3.out]);have HDE:=Lib.hid (show Dr w wr from HD.out.trans hdk);clear htk hkk;go_wp2_with fail;go_ret;exact ⟨by rw [HAT.out];rfl,HDE.out⟩
    | false =>
      have HA2:=Lib.hid (show ∀ i u,i < j+1→(wordsT T)[i]? = some u→u ≠ l from fun i u' hi hu'=>by
       by_cases hij:i=j
       ·subst hij;rw [HU2.out] at hu';injection hu' with hu'
        subst hu';exact HD2.out rfl
       ·exact HA.out i u' (by omega) hu')
      have HDE:=Lib.hid (show Dr w wr from HD.out.trans hdk);clear hkk;by_cases hkl:k < nl
      ·have hkb1:(k:Int) < (nl:Int):=by omega
       go_wp2_with fail;exact ⟨⟨j+1,by go_num,by omega,HA2,HDE.out⟩,by simp [intOf];omega⟩
      ·have hkb1:¬ (k:Int) < (nl:Int):=by omega
       go_wp2_with fail;exact ⟨⟨j+1,by go_num,by omega,HA2,HDE.out⟩,by simp [intOf];omega⟩
  ·obtain rfl:j=n:=by omega
   have HV:=Lib.hid (show atV T l=-1 from by
    unfold atV
    cases hsl:T.sub l with
    | leaf s =>
      obtain ⟨i,hi,he⟩:=List.getElem_of_mem (sub_words hsl);exact absurd rfl (HA.out i l (by rw [← HWN.out];exact hi) (by rw [List.getElem?_eq_getElem hi,he]))
    | nil=>rfl
    | node _ _=>rfl)
   go_wp2_with fail;go_ret;exact ⟨by rw [HV.out];rfl,hd⟩
theorem sgs_at {s:ByteArray} {k x:Nat} (h:(txt s)[k]? = some x):(sgs (txt s))[k]? = some (x+1):=by
 unfold sgs;rw [List.getElem?_append_left (by rw [List.length_map];exact (List.getElem?_eq_some_iff.1 h).1),List.getElem?_map,h];rfl
theorem sgs_end (s:ByteArray):(sgs (txt s))[s.size]? = some 0:=by
 unfold sgs;rw [List.getElem?_append_right (by rw [List.length_map,txt_len];exact Nat.le_refl _),List.length_map,txt_len,Nat.sub_self];rfl
theorem sgs_len (s:ByteArray):(sgs (txt s)).length=s.size+1:=by unfold sgs;rw [List.length_append,List.length_map,txt_len];rfl
theorem rbits6_any (lo hi p:Nat) (T:CT) (sg:List Nat) (ls:List Int) (s:ByteArray) (w:World) (h:RCode w lo hi p T sg ls) (hs:s.size≤1000000) :
  Calls Tryz.prog 91 #[.pointer (some ⟨p,0,none⟩),.string s] w (AllP w (encT T s)):=by
 obtain ⟨i0,hi0,hz0,hz1,hz2⟩:=info_parts Tryz.info_abool;have HC:=Lib.hid h;clear h
 go_enter Tryz.func91,Tryz.ntmps91
 go_wp2_with fail
 go_loopw [6,7] (fun v x wr=>∃ (k m c:Nat) (A:Option Addr) (r:List Bool),x=.int .i64 (k:Int)∧v=.slice A m c∧k≤s.size+1∧m≤256 * k∧Hid (r.length=m)∧Hid (T.enc ((sgs (txt s)).take k)=some r)∧Hid (wr.ownsRow w.heap.size 4 1 (.slice A m c) m (r.map .bool))∧Hid (Kp [] w wr)) (fun _ x _=>s.size+1 - (intOf x).toNat)
 case atStart=>exact ⟨0,0,0,none,[],rfl,rfl,by omega,by omega,Lib.hid rfl,Lib.hid (by simp [CT.enc]),Lib.hid (World.ownsRow_nil w _ _ _),Lib.hid (Kp.refl _ _)⟩
 case round =>
  obtain ⟨k,m,c,A,r,rfl,rfl,hk,hm,HR,HE,HO,HK⟩:=hrel;have hk0:(0:Int)≤(k:Int):=by omega
  have hsm:s.size≤9223372036854775807:=by omega
  have HZ:=Lib.hid HK.out.size;by_cases hlt:k < s.size
  ·have HT:=Lib.hid (txt_get s k hlt);obtain ⟨x,hx⟩:∃ x,s[k].toNat=x:=⟨_,rfl⟩;have hx255:x≤255:=by rw [← hx];have:=s[k].toNat_lt;omega
   obtain ⟨y,hy⟩:∃ y,y=x+1:=⟨_,rfl⟩;have HS:=Lib.hid (show (sgs (txt s))[k]? = some y from by rw [hy];exact sgs_at (show (txt s)[k]? = some x from by rw [HT.out,hx]));have hx0:(0:Int)≤(x:Int):=by omega
   have hx1:(x:Int)≤255:=by omega
   have hb1:(k:Int) < (s.size:Int):=by omega
   have hb2:(k:Int)≤(s.size:Int):=by omega
   have HY:=Lib.hid (show wdI T (1+(x:Int))=T.word y from by unfold wdI;rw [if_pos (by omega)];congr 1;omega);clear HT;go_wp2_with fail;refine (rword_any lo hi p (1+(x:Int)) T sg ls wr (HC.out.kp0 HK.out)).mono ?_;rintro e w2 ⟨⟨v,rfl,hv⟩,rfl⟩;rw [HY.out] at hv
   cases ho:T.word y with
   | none =>
     rw [ho] at hv;obtain rfl:v=.slice none 0 0:=hv;have HN:=Lib.hid (show encT T s=none from enc_none (s:=y) (List.mem_of_getElem? HS.out) ho);clear ho;go_wp2_with fail;go_ret2;rw [HN.out];exact ⟨⟨_,rfl⟩,HK.out⟩
   | some u =>
     rw [ho] at hv;obtain ⟨ad,cc,rfl,hcc,hlo,hhi,hru⟩:=hv;have hu:=word_len HC.out.1 ho;have hu1:=List.length_pos_iff.2 (word_ne HC.out.1 ho)
     have HEN:=Lib.hid (show T.enc ((sgs (txt s)).take (k+1))=some (r ++ u) from by
      rw [take_succ_of HS.out]
      exact enc_snoc HE.out ho)
     obtain ⟨n,hn⟩:∃ n,n=u.length:=⟨_,rfl⟩;rw [← hn] at hu hu1 hcc ⊢;have HUN:=Lib.hid hn;have HRU:=Lib.hid hru;have hnz:((n:Int) == 0)=false:=by simp;omega
     clear hn hru hlo hhi ho
     go_wp2_with (at_builtin;go_loud (refine wpList_append_rd rfl (.tmp 31) (.tmp 32) 80 rfl w.heap.size 4 i0 (.bool false) 1 1 Tryz.underlying80 hi0 hz0 hz1 hz2 rfl (by decide) (.slice A m c) m _ rfl HO.out _ (some ad) n cc (u.map .bool) rfl (by rw [List.length_map,HUN.out,Nat.mul_one]) HRU.out (oc_bools _) (by unfold maxLen;omega) (by omega) HZ.out ?_);intro v3 w3 hown3 hgrow3 hat3;obtain ⟨A3,c3,rfl,_⟩:=own_form hown3)
     have HO3:=Lib.hid (show w3.ownsRow w.heap.size 4 1 (.slice A3 (m+n) c3) (m+n) ((r ++ u).map .bool) from by rw [List.map_append];exact hown3);have HK3:=Lib.hid (HK.out.trans' ((Kp.refl _ _).grown hgrow3 (fun x hx=>.inl (mem_ownL.2 hx))) (fun x hx=>.inr (own_ge HO.out (mem_ownL.1 hx)).1));clear hown3 hgrow3 hat3;exact ⟨⟨k+1,m+n,c3,A3,r ++ u,by go_num,rfl,by omega,by omega,Lib.hid (by rw [List.length_append,HR.out,← HUN.out]),HEN,HO3,HK3⟩,by first | (simp [intOf];done) | (simp [intOf];omega)⟩
  ·by_cases hle:k=s.size
   ·subst hle;have HS:=Lib.hid (sgs_end s);have HY:=Lib.hid (show wdI T (0:Int)=T.word 0 from by unfold wdI;rw [if_pos (by omega)];rfl);have hb2:¬ (s.size:Int) < (s.size:Int):=by omega
    have hb3:(s.size:Int)≤(s.size:Int):=by omega
    go_wp2_with fail;refine (rword_any lo hi p (0:Int) T sg ls wr (HC.out.kp0 HK.out)).mono ?_;rintro e w2 ⟨⟨v,rfl,hv⟩,rfl⟩;rw [HY.out] at hv
    cases ho:T.word 0 with
    | none =>
      rw [ho] at hv;obtain rfl:v=.slice none 0 0:=hv;have HN:=Lib.hid (show encT T s=none from enc_none (s:=0) (List.mem_of_getElem? HS.out) ho);clear ho;go_wp2_with fail;go_ret2;rw [HN.out];exact ⟨⟨_,rfl⟩,HK.out⟩
    | some u =>
      rw [ho] at hv;obtain ⟨ad,cc,rfl,hcc,hlo,hhi,hru⟩:=hv;have hu:=word_len HC.out.1 ho;have hu1:=List.length_pos_iff.2 (word_ne HC.out.1 ho)
      have HEN:=Lib.hid (show T.enc ((sgs (txt s)).take (s.size+1))=some (r ++ u) from by
       rw [take_succ_of HS.out]
       exact enc_snoc HE.out ho)
      obtain ⟨n,hn⟩:∃ n,n=u.length:=⟨_,rfl⟩;rw [← hn] at hu hu1 hcc ⊢;have HUN:=Lib.hid hn;have HRU:=Lib.hid hru;have hnz:((n:Int) == 0)=false:=by simp;omega
      clear hn hru hlo hhi ho
      go_wp2_with (at_builtin;go_loud (refine wpList_append_rd rfl (.tmp 31) (.tmp 32) 80 rfl w.heap.size 4 i0 (.bool false) 1 1 Tryz.underlying80 hi0 hz0 hz1 hz2 rfl (by decide) (.slice A m c) m _ rfl HO.out _ (some ad) n cc (u.map .bool) rfl (by rw [List.length_map,HUN.out,Nat.mul_one]) HRU.out (oc_bools _) (by unfold maxLen;omega) (by omega) HZ.out ?_);intro v3 w3 hown3 hgrow3 hat3;obtain ⟨A3,c3,rfl,_⟩:=own_form hown3)
      have HO3:=Lib.hid (show w3.ownsRow w.heap.size 4 1 (.slice A3 (m+n) c3) (m+n) ((r ++ u).map .bool) from by rw [List.map_append];exact hown3);have HK3:=Lib.hid (HK.out.trans' ((Kp.refl _ _).grown hgrow3 (fun x hx=>.inl (mem_ownL.2 hx))) (fun x hx=>.inr (own_ge HO.out (mem_ownL.1 hx)).1));clear hown3 hgrow3 hat3;exact ⟨⟨s.size+1,m+n,c3,A3,r ++ u,by go_num,rfl,by omega,by omega,Lib.hid (by rw [List.length_append,HR.out,← HUN.out]),HEN,HO3,HK3⟩,by first | (simp [intOf];done) | (simp [intOf];omega)⟩
   ·obtain rfl:k=s.size+1:=by omega
    have HN:=Lib.hid (show encT T s=some r from by
     have:=HE.out
     rwa [List.take_of_length_le (by rw [sgs_len];exact Nat.le_refl _)] at this)
    have hb2:¬ (((s.size+1:Nat)):Int)≤(s.size:Int):=by omega
    go_wp2_with fail;go_ret2;rw [HN.out];exact ⟨A,m,c,HR.out.symm,rfl,HO.out,HK.out⟩
structure TwoR (w:World) (b:Nat) (t1 t2:TypeId) (y z:Value) (m k:Nat) (v u:List Value):Prop where
 o1:w.ownsRow b t1 1 y m v
 o2:w.ownsRow b t2 1 z k u
 ne:∀ g,y.ownBlock=some g→z.ownBlock ≠ some g
section
variable {w w':World} {b m k m':Nat} {t1 t2:TypeId} {y z y':Value} {v u v':List Value}
theorem TwoR.swap (h:TwoR w b t1 t2 y z m k v u):TwoR w b t2 t1 z y k m u v:=⟨h.o2,h.o1,fun g h1 h2=>h.ne g h2 h1⟩
theorem TwoR.kp {S:List Nat} (h:TwoR w b t1 t2 y z m k v u) (hk:Kp S w w') (hS:∀ g ∈ S,g < b):TwoR w' b t1 t2 y z m k v u:=
 ⟨own_kp h.o1 hk (fun g hg hm=>by have:=(own_ge h.o1 hg).1;have:=hS g hm;omega),own_kp h.o2 hk (fun g hg hm=>by have:=(own_ge h.o2 hg).1;have:=hS g hm;omega),h.ne⟩
theorem TwoR.left {o:Obj} (h:TwoR w b t1 t2 y z m k v u) (hown:w'.ownsRow b t1 1 y' m' v') (hg:(w.alloc o).grownBy w' y.ownBlock) (hat:y'.ownBlock=y.ownBlock ∨ y'.ownBlock=some (w.alloc o).heap.size):TwoR w' b t1 t2 y' z m' k v' u:=by
 have hk:Kp (ownL y) w w':=((Kp.refl _ w).alloc o).grown hg (fun g hg=>.inl (mem_ownL.2 hg));refine ⟨hown,own_kp h.o2 hk (fun g hg hm=>h.ne g (mem_ownL.1 hm) hg),fun g h1 h2=>?_⟩;rcases hat with e | e
 ·exact h.ne g (e ▸ h1) h2
 ·rw [e] at h1;injection h1 with h1
  have:=(own_ge h.o2 h2).2
  simp at h1
  omega
theorem TwoR.none_right (h:TwoR w b t1 t2 y z m k v u):TwoR w b t1 t2 y (.slice none 0 0) m 0 v []:=⟨h.o1,⟨rfl,.inl ⟨rfl,rfl⟩⟩,fun g _ h2=>by cases h2⟩
end
theorem TwoR.nil (w:World) (b:Nat) (t1 t2:TypeId):TwoR w b t1 t2 (.slice none 0 0) (.slice none 0 0) 0 0 [] []:=⟨⟨rfl,.inl ⟨rfl,rfl⟩⟩,⟨rfl,.inl ⟨rfl,rfl⟩⟩,fun g h=>by cases h⟩
theorem full_sub:∀ {T:CT},T.Full→∀ {l:List Bool} {x y:CT},T.sub l=.node x y→x.Full∧y.Full
 | .leaf s,_,[],x,y,h=>by rw [CT.sub_nil] at h;cases h
 | .leaf s,_,b :: l,x,y,h=>by rw [CT.sub_leaf] at h;cases h
 | .node a c,hf,[],x,y,h=>by rw [CT.sub_nil] at h;injection h with h1 h2;subst h1 h2;exact hf
 | .node a c,hf,false :: l,x,y,h=>full_sub hf.1 (show a.sub l=_ from h)
 | .node a c,hf,true :: l,x,y,h=>full_sub hf.2 (show c.sub l=_ from h)
theorem kid_sub_ {x1 x2:CT} (b:Bool):(CT.node x1 x2).kid b=if b then x2 else x1:=by cases b <;> (show CT.sub _ []=_;rw [CT.sub_nil];rfl)
theorem kid_nil {T:CT} {sg:List Nat} {ls:List Int} (h:CodeT T sg ls) {l:List Bool} {x1 x2:CT} (hl:T.sub l=.node x1 x2) (b:Bool):(CT.node x1 x2).kid b=.nil ↔ sg.length=1∧b=true:=by
 rw [kid_sub_];rcases h.2.2.2.2.2 with ⟨a,c,e,ha,hc,h2⟩ | ⟨s,e,hs⟩
 ·have hf:=full_sub (T:=T) (by rw [e];exact ⟨ha,hc⟩) hl;refine ⟨fun hn=>?_,fun hn=>by omega⟩
  cases b
  ·rw [if_neg (by simp)] at hn;rw [hn] at hf;exact hf.1.elim
  ·rw [if_pos rfl] at hn;rw [hn] at hf;exact hf.2.elim
 ·have hl0:l=[]:=by
   cases l with
   | nil=>rfl
   | cons d l =>
     rw [e] at hl
     cases d
     ·have:(CT.leaf s).sub l=.node x1 x2:=hl
      cases l with
      | nil=>rw [CT.sub_nil] at this;cases this
      | cons d l=>rw [CT.sub_leaf] at this;cases this
     ·have:CT.nil.sub l=.node x1 x2:=hl;rw [CT.sub_none] at this
      cases this
  subst hl0;rw [CT.sub_nil,e] at hl;injection hl with h1 h2
  subst h1 h2;rw [hs]
  cases b <;> simp
theorem sub_kid {T:CT} {lb:List Bool} {x1 x2:CT} (h:T.sub lb=.node x1 x2) (b:Bool):T.sub (lb ++ [b])=(CT.node x1 x2).kid b:=by rw [CT.sub_app,h];rfl
def RGetP (rp:Nat) (A:Option Addr) (N c a:Nat) (F:List Nat × Int × Nat × Bool) (w:World) (e:Ending) (w':World):Prop:=e=.returned (.tuple #[.string (strN F.1),.int .i64 F.2.1])∧RrM w' rp A N c (a+F.2.2.1) F.2.2.2∧Kp [rp] w w'
theorem rget6_any (lo hi p rp N cA a B:Nat) (A:Option Addr) (bad:Bool) (bs:List Bool) (T:CT) (sg:List Nat) (ls:List Int) (w:World) (h:RCode w lo hi p T sg ls) (hr:RrM w rp A N cA a bad) (hx:Rd w B A (bs.map .bool)) (hN:bs.length=N) (hc:N≤cA) (ha:a≤N) (hN24:N≤16777216) (hB:B≤rp) (hhi:hi≤rp) :
  Calls Tryz.prog 149 #[.pointer (some ⟨p,0,none⟩),.pointer (some ⟨rp,0,none⟩)] w (RGetP rp A N cA a (getF T bs a bad) w):=by
 obtain ⟨i0,hi0,hz0,hz1,hz2⟩:=info_parts Tryz.info_abool;obtain ⟨j0,hj0,hy0,hy1,hy2⟩:=info_parts Tryz.info_au8;have hrw:rp < w.heap.size:=Blk.lt hr;have HC:=Lib.hid h;have HR:=Lib.hid hr;have HX:=Lib.hid hx;have HN:=Lib.hid hN;have HHI:=Lib.hid (show ∀ g ∈ [rp],g < lo ∨ hi≤g from fun g hg=>.inr (by rw [List.mem_singleton.1 hg];exact hhi));have HRB:=Lib.hid (show ∀ g ∈ [rp],B≤g from fun g hg=>by rw [List.mem_singleton.1 hg];exact hB);have HRW:=Lib.hid (show ∀ g ∈ [rp],g < w.heap.size from fun g hg=>by rw [List.mem_singleton.1 hg];exact hrw);clear h hr hx hN
 cases bad with
 | true =>
   have HNX:=Lib.hid (rrnext_any rp N cA a B A true bs w HR.out HX.out HN.out hc ha hN24 hB);rw [show rNum bs a true 1=(0,a,true) from by unfold rNum;rw [if_pos (.inl rfl)],show ((0:Nat) == 1)=false from rfl] at HNX
   go_enter Tryz.func149,Tryz.ntmps149
   go_wp2_with fail
   go_loopw [6,7] (fun v x wr=>v=.slice none 0 0∧x=.slice none 0 0∧w=wr) (fun _ _ _=>0)
   case atStart=>exact ⟨rfl,rfl,rfl⟩
   case round =>
    obtain ⟨rfl,rfl,rfl⟩:=hrel;go_wp2_with fail;refine HNX.out.mono ?_;rintro e w2 ⟨rfl,hr2,hk2⟩;have hc2:w2.cell? ⟨rp,2,none⟩=some (.bool true):=hr2.cells.2.2;have HR2:=Lib.hid hr2;have HK2:=Lib.hid hk2;clear hr2 hk2;go_wp2_with fail;go_ret2;exact ⟨rfl,HR2.out,HK2.out⟩
 | false =>
   go_enter Tryz.func149,Tryz.ntmps149
   go_wp2_with fail
   go_loopw [6,7] (fun v x wr=>∃ (j m c kb c2:Nat) (A1 A2:Option Addr) (o:List Nat) (lb:List Bool) (x1 x2:CT),v=.slice A1 m c∧x=.slice A2 kb c2∧a+j≤N∧m≤j∧kb≤j∧Hid (o.length=m∧∀ y ∈ o,y < 256)∧Hid (lb.length=kb)∧Hid (T.sub lb=.node x1 x2)∧Hid (GetI (getF T bs a false) T (.node x1 x2) o (bs.drop (a+j)) j)∧Hid (RrM wr rp A N cA (a+j) false)∧Hid (TwoR wr w.heap.size 5 4 (.slice A1 m c) (.slice A2 kb c2) m kb (o.map fun (y:Nat)=>.int .u8 (y:Int)) (lb.map .bool))∧Hid (Kp [rp] w wr)) (fun _ _ wr=>N - (match wr.cell? ⟨rp,1,none⟩ with | some v=>(intOf v).toNat | none=>0))
   case atStart =>
    obtain ⟨ta,tb,e⟩:=HC.out.1.node;exact ⟨0,0,0,0,0,none,none,[],[],ta,tb,rfl,rfl,by omega,by omega,by omega,Lib.hid ⟨rfl,by simp⟩,Lib.hid rfl,Lib.hid (by rw [CT.sub_nil];exact e),Lib.hid (by have:=GetI.start T bs a;rw [e] at this ⊢;exact this),HR,Lib.hid (TwoR.nil w _ _ _),Lib.hid (Kp.refl _ _)⟩
   case round =>
    obtain ⟨j,m,c,kb,c2,A1,A2,o,lb,x1,x2,rfl,rfl,haj,hmj,hkj,HO,HLB,HSUB,HG,HRR,HTW,HK⟩:=hrel;have HNX:=Lib.hid (rrnext_any rp N cA (a+j) B A false bs wr HRR.out (HX.out.kp HK.out HRB.out) HN.out hc haj hN24 hB);have HREL:=Lib.hid (show wr.cell? ⟨rp,1,none⟩=some (.int .i64 ((a+j:Nat):Int)) from HRR.out.cells.2.1);by_cases hend:N≤a+j
    ·rw [rNum_end (by rw [HN.out];exact hend),show ((0:Nat) == 1)=false from rfl] at HNX
     have HF:=Lib.hid (show getF T bs a false=([],4,j,true) from by
      have:=HG.out;rw [List.drop_of_length_le (by rw [HN.out];exact hend)] at this
      exact this.stop)
     go_wp2_with fail;refine HNX.out.mono ?_;rintro e w2 ⟨rfl,hr2,hk2⟩;have hc2:w2.cell? ⟨rp,2,none⟩=some (.bool true):=hr2.cells.2.2;have HR2:=Lib.hid hr2;have HK2:=Lib.hid (HK.out.trans hk2);clear hr2 hk2;go_wp2_with fail;go_ret2;rw [HF.out];exact ⟨rfl,HR2.out,HK2.out⟩
    ·obtain ⟨b,hb⟩:∃ b,bs[a+j]? = some b:=⟨_,List.getElem?_eq_getElem (by rw [HN.out];omega)⟩
     have HD:=Lib.hid (show bs.drop (a+j)=b :: bs.drop (a+j+1) from by
      obtain ⟨h1,h2⟩:=List.getElem?_eq_some_iff.1 hb
      rw [List.drop_eq_getElem_cons h1,h2])
     rw [HD.out] at HG;rw [rNum_at hb,show ((if b then 1 else 0:Nat) == 1)=b from by cases b <;> rfl] at HNX;have hlt:a+j+1≤N:=by omega
     clear hb HD hend;go_wp2_with fail;refine HNX.out.mono ?_;rintro e w2 ⟨rfl,hr2,hk2⟩;have HR2:=Lib.hid (show RrM w2 rp A N cA (a+(j+1)) false from hr2);have HK2:=Lib.hid (HK.out.trans hk2);have hc2:w2.cell? ⟨rp,2,none⟩=some (.bool false):=hr2.cells.2.2;have HTW2:=Lib.hid (HTW.out.kp hk2 HRW.out);have HSZ:=Lib.hid HK2.out.size;clear hr2 hk2 HNX HTW HRR HK;obtain ⟨n,S1,S2,S3,d1,d2,d3,lw,hsn,hsl,_,q0,_,_,_,_,_,_,_,_,_⟩:=(HC.out.kp HK2.out HHI.out).cells;have HSN:=Lib.hid hsn
     have hpo:p ∉ ownL (.slice A2 kb c2):=fun hm=>by
      have h1:=(own_ge HTW2.out.o2 (mem_ownL.1 hm)).1;have h2:=HC.out.2.2.1;omega
     have hro:∀ g ∈ ownL (.slice A2 kb c2),w.heap.size≤g:=fun g hm=>(own_ge HTW2.out.o2 (mem_ownL.1 hm)).1
     have HPO:=Lib.hid hpo;have HRO:=Lib.hid hro;clear hsn hsl hpo hro;have HKN:=Lib.hid (kid_nil HC.out.1 HSUB.out b);have HSK:=Lib.hid (sub_kid HSUB.out b);by_cases hkn:n=1∧b=true
     ·obtain ⟨rfl,rfl⟩:=hkn;have HF:=Lib.hid (HG.out.none (HKN.out.2 ⟨HSN.out.symm,rfl⟩));have hnn:(((1:Nat):Int) == 1)=true:=rfl
      go_wp2_with (at_builtin;go_loud (refine wpList_append_rd rfl (.tmp 16) (.tmp 18) 80 rfl (w.heap.size) 4 i0 (.bool false) 1 1 Tryz.underlying80 hi0 hz0 hz1 hz2 rfl (by decide) (.slice A2 kb c2) (kb) _ rfl (own_kp0 HTW2.out.o2 ((Kp.refl [] _).alloc _)) _ _ 1 1 [.bool true] rfl rfl (Rd.new w2 #[.bool true] 4 (0,0)) (by intro u hu;simp at hu;subst hu;rfl) (by unfold maxLen;omega) (by omega) (by have:=HSZ.out;simp;omega) ?_);intro v3 w3 hown3 hgrow3 hat3;obtain ⟨hka3,hga3⟩:=app_facts hgrow3 hat3;obtain ⟨A3',c3',rfl,_⟩:=own_form hown3;have hp3:w3.cell? ⟨p,0,none⟩=some (.slice (some S1) 1 d1):=hka3.cell q0 HPO.out;have HTW3:=Lib.hid (HTW2.out.swap.left hown3 hgrow3 hat3).swap;have HK3:=Lib.hid (HK2.out.trans' hka3 (fun x hx=>.inr (HRO.out x hx)));have HR3:=Lib.hid (HR2.out.kp hka3 (fun hm=>by have:=HRO.out _ hm;omega));clear hown3 hgrow3 hat3 hka3 hga3 HR2 HTW2 HK2 q0 hc2)
      go_ret2;rw [HF.out];exact ⟨rfl,HR3.out,HK3.out⟩
     ·have HNIL:=Lib.hid (show (CT.node x1 x2).kid b ≠ .nil from fun e=>hkn (by have:=HKN.out.1 e;rw [← HSN.out] at this;exact this))
      have HS255:=Lib.hid (show ∀ s,(CT.node x1 x2).kid b=.leaf s→s≤256 from fun s hs=>by
       have h1:T.sub (lb ++ [b])=.leaf s:=by rw [HSK.out,hs]
       exact HC.out.1.2.2.2.1 _ (word_mem HC.out.1 ((word_sub HC.out.1).2 h1)))
      clear HKN;by_cases hn1:n=1
      ·subst hn1;obtain rfl:b=false:=by cases b <;> simp_all
       have hnn:(((1:Nat):Int) == 1)=true:=rfl;clear hkn
       go_wp2_with (at_builtin;go_loud (refine wpList_append_rd rfl (.tmp 16) (.tmp 18) 80 rfl (w.heap.size) 4 i0 (.bool false) 1 1 Tryz.underlying80 hi0 hz0 hz1 hz2 rfl (by decide) (.slice A2 kb c2) (kb) _ rfl (own_kp0 HTW2.out.o2 ((Kp.refl [] _).alloc _)) _ _ 1 1 [.bool false] rfl rfl (Rd.new w2 #[.bool false] 4 (0,0)) (by intro u hu;simp at hu;subst hu;rfl) (by unfold maxLen;omega) (by omega) (by have:=HSZ.out;simp;omega) ?_);intro v3 w3 hown3 hgrow3 hat3;obtain ⟨hka3,hga3⟩:=app_facts hgrow3 hat3;obtain ⟨A3',c3',rfl,_⟩:=own_form hown3;have hp3:w3.cell? ⟨p,0,none⟩=some (.slice (some S1) 1 d1):=hka3.cell q0 HPO.out;have HTW3:=Lib.hid (HTW2.out.swap.left hown3 hgrow3 hat3).swap;have HK3:=Lib.hid (HK2.out.trans' hka3 (fun x hx=>.inr (HRO.out x hx)));have HR3:=Lib.hid (HR2.out.kp hka3 (fun hm=>by have:=HRO.out _ hm;omega));clear hown3 hgrow3 hat3 hka3 hga3 HR2 HTW2 HK2 q0 hc2)
       refine (rat6_any lo hi p (kb+1) c3' _ A3' (lb ++ [false]) T sg ls w3 (HC.out.kp HK3.out HHI.out) (by rw [List.map_append];exact own_rd HTW3.out.o2) (by rw [List.length_append,HLB.out];rfl) (by omega)).mono ?_;rintro e w4 ⟨rfl,hd4⟩;have hk4:=hd4.kp [];have HTW4:=Lib.hid (HTW3.out.kp hk4 (by simp));have HR4:=Lib.hid (HR3.out.kp0 hk4);have HK4:=Lib.hid (HK3.out.trans' hk4 (by simp));have HSZ4:=Lib.hid HK4.out.size;have HM4:=Lib.hid (show w4.cell? ⟨rp,1,none⟩=some (.int .i64 ((a+(j+1):Nat):Int)) from HR4.out.cells.2.1);clear hd4 hk4 HTW3 HR3 HK3 hp3
       cases hX:(CT.node x1 x2).kid false with
       | nil=>exact absurd hX HNIL.out
       | leaf s =>
         have HAV:=Lib.hid (show atV T (lb ++ [false])=(s:Int) from by unfold atV;rw [HSK.out,hX])
         cases s with
         | zero =>
           rw [HAV.out,show ((0:Nat):Int)=0 from rfl];have HF:=Lib.hid (HG.out.fin hX);have hcv:=run_strN w4 A1 m c _ o HO.out.1 HO.out.2 (own_rd HTW4.out.o1);clear hX;go_wp2_with fail;go_ret2;rw [HF.out];exact ⟨rfl,HR4.out,HK4.out⟩
         | succ s =>
           rw [HAV.out];have HG2:=Lib.hid (HG.out.leaf hX);have hs255:s≤255:=by have:=HS255.out _ hX;omega
           obtain ⟨s1,hs1⟩:∃ s1,s1=s+1:=⟨_,rfl⟩;rw [← hs1];have hs10:((s1:Int) == 0)=false:=by simp;omega
           have hs11:decide ((0:Int) < (s1:Int))=true:=by simp;omega
           have hs12:decide (0 < s1)=true:=by simp;omega
           have hm2:(m+1) * 1≤140737488355328:=by omega
           have hw1:IntKind.i64.wrap ((s1:Int) - 1)=(s:Int):=by rw [IntKind.wrap_i64];omega
           have hw2:IntKind.u8.wrap (s:Int)=(s:Int):=by
            simp only [IntKind.wrap,IntKind.signed,IntKind.bits]
            simp
            omega
           have HRO2:=Lib.hid (show ∀ g ∈ ownL (.slice A1 m c),w.heap.size≤g from fun g hm=>(own_ge HTW4.out.o1 (mem_ownL.1 hm)).1);clear hX hs1;obtain ⟨ta,tb,eT⟩:=HC.out.1.node;have HET:=Lib.hid eT;have HG3:=Lib.hid (show GetI (getF T bs a false) T (.node ta tb) (o ++ [s]) (bs.drop (a+(j+1))) (j+1) from by have:=HG2.out;rw [eT] at this ⊢;exact this);have HS3:=Lib.hid (show T.sub []=.node ta tb from by rw [CT.sub_nil];exact eT)
           have HOO:=Lib.hid (show (o ++ [s]).length=m+1∧∀ y ∈ o ++ [s],y < 256 from ⟨by rw [List.length_append,HO.out.1];rfl,fun y hy=>by
            rcases List.mem_append.1 hy with h | h
            ·exact HO.out.2 y h
            ·rw [List.mem_singleton.1 h];omega⟩)
           have hm1:m+1≤maxLen:=by unfold maxLen;omega
           have HZ4:=Lib.hid (show w.heap.size≤(w4.alloc (.cells #[.int .u8 (s:Int)] 5)).heap.size from by have:=HSZ4.out;simp;omega);have HRN:=Lib.hid (show rp ∉ ownL (.slice A1 m c) from fun hm=>by have:=HRO2.out _ hm;omega);have hz1:a+(j+1)≤N:=by omega
           have hz2:m+1≤j+1:=by omega
           have hz3:0≤j+1:=by omega
           clear eT
           go_wp2_with (at_builtin;go_loud (refine wpList_append_rd rfl (.tmp 38) (.tmp 42) 41 rfl (w.heap.size) 5 j0 (.int .u8 0) 1 1 Tryz.underlying41 hj0 hy0 hy1 hy2 rfl (by decide) (.slice A1 m c) m _ rfl (own_kp0 HTW4.out.o1 ((Kp.refl [] _).alloc _)) _ _ 1 1 [.int .u8 (s:Int)] rfl rfl (Rd.new w4 #[.int .u8 (s:Int)] 5 (0,0)) (by intro u hu;simp at hu;subst hu;rfl) hm1 hm2 HZ4.out ?_);intro v5 w5 hown5 hgrow5 hat5;obtain ⟨hka5,hga5⟩:=app_facts hgrow5 hat5;obtain ⟨A5',c5',rfl,_⟩:=own_form hown5;have HTW5:=Lib.hid (HTW4.out.left hown5 hgrow5 hat5).none_right;have HK5:=Lib.hid (HK4.out.trans' hka5 (fun x hx=>.inr (HRO2.out x hx)));have HR5:=Lib.hid (HR4.out.kp hka5 HRN.out);clear hown5 hgrow5 hat5 hka5 hga5)
           clear hw1 hw2;refine ⟨⟨j+1,m+1,c5',0,0,A5',none,o ++ [s],[],ta,tb,rfl,rfl,hz1,hz2,hz3,HOO,Lib.hid rfl,HS3,HG3,HR5,Lib.hid (by rw [List.map_append];exact HTW5.out),HK5⟩,?_⟩;rw [HREL.out,HR5.out.cells.2.1];simp only [intOf]
           omega
       | node y1 y2 =>
         have HAV:=Lib.hid (show atV T (lb ++ [false])=-1 from by unfold atV;rw [HSK.out,hX]);rw [HAV.out];have HG2:=Lib.hid (HG.out.node hX);have HSUB2:=Lib.hid (show T.sub (lb ++ [false])=.node y1 y2 from by rw [HSK.out,hX]);clear hX;go_wp2_with fail;refine ⟨⟨j+1,m,c,kb+1,c3',A1,A3',o,lb ++ [false],y1,y2,rfl,rfl,by omega,by omega,by omega,HO,Lib.hid (by rw [List.length_append,HLB.out];rfl),HSUB2,HG2,HR4,Lib.hid (by rw [List.map_append];exact HTW4.out),HK4⟩,?_⟩;rw [HREL.out,HM4.out];simp only [intOf]
         omega
      ·have hnn:((n:Int) == 1)=false:=by simp;omega
       clear hkn hn1
       go_wp2_with (at_builtin;go_loud (refine wpList_append_rd rfl (.tmp 16) (.tmp 18) 80 rfl (w.heap.size) 4 i0 (.bool false) 1 1 Tryz.underlying80 hi0 hz0 hz1 hz2 rfl (by decide) (.slice A2 kb c2) (kb) _ rfl (own_kp0 HTW2.out.o2 ((Kp.refl [] _).alloc _)) _ _ 1 1 [.bool b] rfl rfl (Rd.new w2 #[.bool b] 4 (0,0)) (by intro u hu;simp at hu;subst hu;rfl) (by unfold maxLen;omega) (by omega) (by have:=HSZ.out;simp;omega) ?_);intro v3 w3 hown3 hgrow3 hat3;obtain ⟨hka3,hga3⟩:=app_facts hgrow3 hat3;obtain ⟨A3',c3',rfl,_⟩:=own_form hown3;have hp3:w3.cell? ⟨p,0,none⟩=some (.slice (some S1) n d1):=hka3.cell q0 HPO.out;have HTW3:=Lib.hid (HTW2.out.swap.left hown3 hgrow3 hat3).swap;have HK3:=Lib.hid (HK2.out.trans' hka3 (fun x hx=>.inr (HRO.out x hx)));have HR3:=Lib.hid (HR2.out.kp hka3 (fun hm=>by have:=HRO.out _ hm;omega));clear hown3 hgrow3 hat3 hka3 hga3 HR2 HTW2 HK2 q0 hc2)
       refine (rat6_any lo hi p (kb+1) c3' _ A3' (lb ++ [b]) T sg ls w3 (HC.out.kp HK3.out HHI.out) (by rw [List.map_append];exact own_rd HTW3.out.o2) (by rw [List.length_append,HLB.out];rfl) (by omega)).mono ?_;rintro e w4 ⟨rfl,hd4⟩;have hk4:=hd4.kp [];have HTW4:=Lib.hid (HTW3.out.kp hk4 (by simp));have HR4:=Lib.hid (HR3.out.kp0 hk4);have HK4:=Lib.hid (HK3.out.trans' hk4 (by simp));have HSZ4:=Lib.hid HK4.out.size;have HM4:=Lib.hid (show w4.cell? ⟨rp,1,none⟩=some (.int .i64 ((a+(j+1):Nat):Int)) from HR4.out.cells.2.1);clear hd4 hk4 HTW3 HR3 HK3 hp3
       cases hX:(CT.node x1 x2).kid b with
       | nil=>exact absurd hX HNIL.out
       | leaf s =>
         have HAV:=Lib.hid (show atV T (lb ++ [b])=(s:Int) from by unfold atV;rw [HSK.out,hX])
         cases s with
         | zero =>
           rw [HAV.out,show ((0:Nat):Int)=0 from rfl];have HF:=Lib.hid (HG.out.fin hX);have hcv:=run_strN w4 A1 m c _ o HO.out.1 HO.out.2 (own_rd HTW4.out.o1);clear hX;go_wp2_with fail;go_ret2;rw [HF.out];exact ⟨rfl,HR4.out,HK4.out⟩
         | succ s =>
           rw [HAV.out];have HG2:=Lib.hid (HG.out.leaf hX);have hs255:s≤255:=by have:=HS255.out _ hX;omega
           obtain ⟨s1,hs1⟩:∃ s1,s1=s+1:=⟨_,rfl⟩;rw [← hs1];have hs10:((s1:Int) == 0)=false:=by simp;omega
           have hs11:decide ((0:Int) < (s1:Int))=true:=by simp;omega
           have hs12:decide (0 < s1)=true:=by simp;omega
           have hm2:(m+1) * 1≤140737488355328:=by omega
           have hw1:IntKind.i64.wrap ((s1:Int) - 1)=(s:Int):=by rw [IntKind.wrap_i64];omega
           have hw2:IntKind.u8.wrap (s:Int)=(s:Int):=by
            simp only [IntKind.wrap,IntKind.signed,IntKind.bits]
            simp
            omega
           have HRO2:=Lib.hid (show ∀ g ∈ ownL (.slice A1 m c),w.heap.size≤g from fun g hm=>(own_ge HTW4.out.o1 (mem_ownL.1 hm)).1);clear hX hs1;obtain ⟨ta,tb,eT⟩:=HC.out.1.node;have HET:=Lib.hid eT;have HG3:=Lib.hid (show GetI (getF T bs a false) T (.node ta tb) (o ++ [s]) (bs.drop (a+(j+1))) (j+1) from by have:=HG2.out;rw [eT] at this ⊢;exact this);have HS3:=Lib.hid (show T.sub []=.node ta tb from by rw [CT.sub_nil];exact eT)
           have HOO:=Lib.hid (show (o ++ [s]).length=m+1∧∀ y ∈ o ++ [s],y < 256 from ⟨by rw [List.length_append,HO.out.1];rfl,fun y hy=>by
            rcases List.mem_append.1 hy with h | h
            ·exact HO.out.2 y h
            ·rw [List.mem_singleton.1 h];omega⟩)
           have hm1:m+1≤maxLen:=by unfold maxLen;omega
           have HZ4:=Lib.hid (show w.heap.size≤(w4.alloc (.cells #[.int .u8 (s:Int)] 5)).heap.size from by have:=HSZ4.out;simp;omega);have HRN:=Lib.hid (show rp ∉ ownL (.slice A1 m c) from fun hm=>by have:=HRO2.out _ hm;omega);have hz1:a+(j+1)≤N:=by omega
           have hz2:m+1≤j+1:=by omega
           have hz3:0≤j+1:=by omega
           clear eT
           go_wp2_with (at_builtin;go_loud (refine wpList_append_rd rfl (.tmp 38) (.tmp 42) 41 rfl (w.heap.size) 5 j0 (.int .u8 0) 1 1 Tryz.underlying41 hj0 hy0 hy1 hy2 rfl (by decide) (.slice A1 m c) m _ rfl (own_kp0 HTW4.out.o1 ((Kp.refl [] _).alloc _)) _ _ 1 1 [.int .u8 (s:Int)] rfl rfl (Rd.new w4 #[.int .u8 (s:Int)] 5 (0,0)) (by intro u hu;simp at hu;subst hu;rfl) hm1 hm2 HZ4.out ?_);intro v5 w5 hown5 hgrow5 hat5;obtain ⟨hka5,hga5⟩:=app_facts hgrow5 hat5;obtain ⟨A5',c5',rfl,_⟩:=own_form hown5;have HTW5:=Lib.hid (HTW4.out.left hown5 hgrow5 hat5).none_right;have HK5:=Lib.hid (HK4.out.trans' hka5 (fun x hx=>.inr (HRO2.out x hx)));have HR5:=Lib.hid (HR4.out.kp hka5 HRN.out);clear hown5 hgrow5 hat5 hka5 hga5)
           clear hw1 hw2;refine ⟨⟨j+1,m+1,c5',0,0,A5',none,o ++ [s],[],ta,tb,rfl,rfl,hz1,hz2,hz3,HOO,Lib.hid rfl,HS3,HG3,HR5,Lib.hid (by rw [List.map_append];exact HTW5.out),HK5⟩,?_⟩;rw [HREL.out,HR5.out.cells.2.1];simp only [intOf]
           omega
       | node y1 y2 =>
         have HAV:=Lib.hid (show atV T (lb ++ [b])=-1 from by unfold atV;rw [HSK.out,hX]);rw [HAV.out];have HG2:=Lib.hid (HG.out.node hX);have HSUB2:=Lib.hid (show T.sub (lb ++ [b])=.node y1 y2 from by rw [HSK.out,hX]);clear hX;go_wp2_with fail;refine ⟨⟨j+1,m,c,kb+1,c3',A1,A3',o,lb ++ [b],y1,y2,rfl,rfl,by omega,by omega,by omega,HO,Lib.hid (by rw [List.length_append,HLB.out];rfl),HSUB2,HG2,HR4,Lib.hid (by rw [List.map_append];exact HTW4.out),HK4⟩,?_⟩;rw [HREL.out,HM4.out];simp only [intOf]
         omega
end Go.Proofs.YtanacapkfllbnaaGreatDoor
