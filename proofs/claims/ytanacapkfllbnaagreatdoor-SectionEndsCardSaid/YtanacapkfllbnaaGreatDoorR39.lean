/-
  LAYER 6 (alpha): how often each sign stands in texts.
  LAYER 6 (alpha), the law's own functions: how many texts, bytes there are; how rows of bits stand; is one the beginning of the other; are rows of truths the same.
  CONDITIONS: as each lemma says.
-/
import Derived.Test.YtanacapkfllbnaaGreatDoorR16
import Derived.Test.YtanacapkfllbnaaGreatDoorR14
import Derived.Test.YtanacapkfllbnaaGreatDoorR30
import Derived.Laws.Tables
import Derived.Laws.Rows
import Derived.ChangeKeysEq
set_option maxRecDepth 100000
set_option maxHeartbeats 4000000
namespace Go.Proofs.YtanacapkfllbnaaGreatDoor
open Go.RowKit

def symT (s:ByteArray):List Nat:=0 :: (txt s).map (· + 1)
def symL (ss:List ByteArray):List Nat:=ss.flatMap symT
theorem symL_snoc (ss:List ByteArray) (s:ByteArray):symL (ss ++ [s])=symL ss ++ symT s:=by unfold symL;rw [List.flatMap_append];simp
theorem symL_cons (s:ByteArray) (ss:List ByteArray):symL (s :: ss)=symT s ++ symL ss:=by unfold symL;rw [List.flatMap_cons]
theorem symT_len (s:ByteArray):(symT s).length=s.size+1:=by unfold symT;rw [List.length_cons,List.length_map,txt_len]
theorem symL_ge:∀ ss:List ByteArray,ss.length≤(symL ss).length
 | []=>Nat.le_refl _
 | s :: ss=>by
   have:=symL_ge ss;rw [symL_cons,List.length_append,symT_len,List.length_cons];omega
theorem symL_lt (ss:List ByteArray):∀ x ∈ symL ss,x < 257:=by
 intro x hx;obtain ⟨s,_,hs⟩:=List.mem_flatMap.1 hx;unfold symT at hs;rcases List.mem_cons.1 hs with rfl | hs
 ·omega
 ·obtain ⟨y,hy,rfl⟩:=List.mem_map.1 hs;have:=txt_lt s y hy;omega
def cntV (l:List Nat):List Value:=(List.range 257).map fun s=>.int .i64 ((l.count s:Nat):Int)
theorem cntV_len (l:List Nat):(cntV l).length=257:=by unfold cntV;rw [List.length_map,List.length_range]
theorem cntV_get (l:List Nat) {s:Nat} (hs:s < 257):(cntV l)[s]? = some (.int .i64 ((l.count s:Nat):Int)):=by
 unfold cntV;rw [List.getElem?_map,List.getElem?_range hs];rfl
theorem cntV_set (l:List Nat) {x:Nat} (hx:x < 257):(cntV l).set x (.int .i64 (((l.count x:Nat):Int)+1))=cntV (l ++ [x]):=by
 apply List.ext_getElem?
 intro s;by_cases hs:s < 257
 ·rw [cntV_get _ hs];by_cases e:s=x
  ·subst e;rw [List.getElem?_set_self (by rw [cntV_len];exact hs),List.count_append]
   simp
  ·rw [List.getElem?_set_ne (Ne.symm e),cntV_get _ hs,List.count_append];have:List.count s [x]=0:=List.count_eq_zero.2 (by simpa using e);rw [this,Nat.add_zero]
 ·rw [List.getElem?_eq_none (by rw [List.length_set,cntV_len];omega),List.getElem?_eq_none (by rw [cntV_len];omega)]
theorem cntV_zero:Tryz.zeroCells103=(cntV []).toArray:=by kernel_rfl
theorem cntV_ok (l:List Nat):(cntV l).toArray.all (·.oneCell')=true:=by
 rw [Array.all_eq_true_iff_forall_mem];intro v hv;have hv':v ∈ cntV l:=by simpa using hv
 unfold cntV at hv';obtain ⟨s,_,rfl⟩:=List.mem_map.1 hv';rfl
theorem Rd.str {w:World} {B:Nat} {A:Option Addr} {ss:List ByteArray} (h:Rd w B A (ss.map .string)) {k:Nat} (hk:k < ss.length):∃ s ad,ss[k]? = some s∧A=some ad∧ad.block < B∧w.cell? (ad.add k)=some (.string s):=by
 obtain ⟨ad,e,hb,hc⟩:=h.at_ (i:=k) (u:=.string ss[k]) (by rw [List.getElem?_map,List.getElem?_eq_getElem hk];rfl);exact ⟨_,ad,List.getElem?_eq_getElem hk,e,hb,hc⟩
theorem Kp.setRow (w:World) (g:Nat) (cs:Array Value):Kp [g] w (w.setRow g cs):=
 ⟨rfl,rfl,rfl,by simp,fun k _ hk=>by
  have hk':k ≠ g:=fun e=>hk (by simp [e])
  simp only [World.setRow,Array.getElem?_modify]
  rw [if_neg (Ne.symm hk')]⟩
theorem counted_any (A:Option Addr) (n c B:Nat) (ss:List ByteArray) (w:World) (hx:Rd w B A (ss.map .string)) (hn:ss.length=n) (hb:(symL ss).length≤1099511627776) (hB:B≤w.heap.size) :
  Calls Tryz.prog 58 #[.slice A n c] w fun e w'=>e=.returned (.agg (cntV (symL ss)).toArray)∧Kp [] w w':=by
 have HX:=Lib.hid hx;have HN:=Lib.hid hn;have HSB:=Lib.hid hb;have HBB:=Lib.hid hB
 have hnb:n≤1099511627776:=by
  have:=symL_ge ss;omega
 clear hx hn hb hB
 go_enter Tryz.func58,Tryz.ntmps58
 have hb0:=Blk.new w 103 (cntV []);have hk0:Kp [] w (w.alloc (.cells (cntV []).toArray 103)):=(Kp.refl _ _).alloc _;go_wp2_with fail;rw [cntV_zero];obtain ⟨g,hg⟩:∃ g,g=w.heap.size:=⟨_,rfl⟩;obtain ⟨w0,hw0⟩:∃ w0,w0=w.alloc (.cells (cntV []).toArray 103):=⟨_,rfl⟩;rw [← hw0] at hb0 hk0 ⊢;rw [← hg] at hb0 ⊢;have HX0:=Lib.hid (HX.out.kp0 hk0);have HB0:=Lib.hid hb0;have HK0:=Lib.hid hk0;have HG:=Lib.hid hg;clear hw0 hb0 hk0 hg HX
 go_loopw [8] (fun x wr=>∃ k:Nat,x=.int .i64 (k:Int)∧k≤n∧Hid (Blk wr g 103 (cntV (symL (ss.take k))))∧Hid (Kp [g] w0 wr)) (fun x _=>n - (intOf x).toNat)
 case atStart=>exact ⟨0,rfl,by omega,HB0,Lib.hid (Kp.refl _ _)⟩
 case round =>
  obtain ⟨k,rfl,hk,HB,HK⟩:=hrel;by_cases hlt:k < n
  ·have hkd:decide ((k:Int) < (n:Int))=true:=by simp;omega
   have hgB:∀ x ∈ [g],B≤x:=fun x hx=>by rw [List.mem_singleton.1 hx,HG.out];exact HBB.out
   obtain ⟨s,ad,hsk,rfl,_,hcs⟩:=(HX0.out.kp HK.out hgB).str (k:=k) (by rw [HN.out];exact hlt);have HSK:=Lib.hid hsk
   have HL:=Lib.hid (show (symL (ss.take k) ++ symT s).length≤1099511627776 from by
    have e:ss=ss.take k ++ s :: ss.drop (k+1):=by
     have:=List.take_append_drop k ss;rw [List.drop_eq_getElem_cons (by rw [HN.out];exact hlt),(List.getElem?_eq_some_iff.1 hsk).2] at this;exact this.symm
    have h1:=HSB.out;rw [e] at h1
    have h2:symL (ss.take k ++ s :: ss.drop (k+1))=(symL (ss.take k) ++ symT s) ++ symL (ss.drop (k+1)):=by
     unfold symL;rw [List.flatMap_append,List.flatMap_cons,List.append_assoc]
    rw [h2,List.length_append] at h1
    omega)
   have hk0':(0:Int)≤(k:Int):=by omega
   have hc0:wr.cell? ⟨g,0,none⟩=some (.int .i64 (((symL (ss.take k)).count 0:Nat):Int)):=by rw [HB.out.cell];exact cntV_get _ (by omega)
   have hf0:=HB.out.free 0;obtain ⟨z,hz⟩:∃ z,z=(symL (ss.take k)).count 0:=⟨_,rfl⟩
   have hz9:(z:Int)≤1099511627776:=by
    have:=List.count_le_length (a:=0) (l:=symL (ss.take k));have:=HL.out;rw [List.length_append] at this;omega
   have hz8:(0:Int)≤(z:Int):=by omega
   rw [← hz] at hc0
   have HB1:=Lib.hid (show Blk (wr.setCell ⟨g,0,none⟩ (.int .i64 ((z:Int)+1))) g 103 (cntV (symL (ss.take k) ++ [0])) from by
    have:=HB.out.set_ 0 (.int .i64 ((z:Int)+1));rw [hz,cntV_set _ (by omega)] at this;rw [hz]
    exact this)
   have HK1:=Lib.hid (HK.out.setCell (p:=⟨g,0,none⟩) (.inl (by simp)) (.int .i64 ((z:Int)+1)));clear hsk hz HB HK
   have hss:s.size≤1099511627776:=by
    have:=HL.out;rw [List.length_append,symT_len] at this;omega
   go_wp2_with fail;obtain ⟨w1,hw1⟩:∃ w1,w1=wr.setCell ⟨g,0,none⟩ (.int .i64 ((z:Int)+1)):=⟨_,rfl⟩;rw [← hw1] at HB1 HK1 ⊢;clear hw1 hc0 hf0 hcs
   go_loopw [18] (fun x wr=>∃ j:Nat,x=.int .i64 (j:Int)∧j≤s.size∧Hid (Blk wr g 103 (cntV (symL (ss.take k) ++ 0 :: ((txt s).take j).map (· + 1))))∧Hid (Kp [g] w0 wr)) (fun x _=>s.size - (intOf x).toNat)
   case atStart=>exact ⟨0,rfl,by omega,HB1,HK1⟩
   case round =>
    clear HB1 HK1;obtain ⟨j,rfl,hj,HB,HK⟩:=hrel;by_cases hjt:j < s.size
    ·have hjd:decide ((j:Int) < (s.size:Int))=true:=by simp;omega
     have hj0:(0:Int)≤(j:Int):=by omega
     obtain ⟨x,hx⟩:∃ x,s[j].toNat=x:=⟨_,rfl⟩;have hx255:x≤255:=by rw [← hx];have:=s[j].toNat_lt;omega
     have HTX:=Lib.hid (show (txt s)[j]? = some x from by rw [txt_get s j hjt,hx]);have hx0:(0:Int)≤(x:Int):=by omega
     have hx1:(x:Int)≤255:=by omega
     obtain ⟨l,hl⟩:∃ l,l=symL (ss.take k) ++ 0 :: ((txt s).take j).map (· + 1):=⟨_,rfl⟩
     have HLE:=Lib.hid (show l.length≤1099511627776 from by
      have h1:=HL.out;rw [List.length_append,symT_len] at h1;rw [hl,List.length_append,List.length_cons,List.length_map,List.length_take,txt_len]
      omega)
     have HNX:=Lib.hid (show symL (ss.take k) ++ 0 :: ((txt s).take (j+1)).map (· + 1)=l ++ [x+1] from by
      rw [hl,take_snoc_ HTX.out,List.map_append,List.append_assoc]
      rfl)
     rw [← hl] at HB;obtain ⟨y,hy⟩:∃ y,y=x+1:=⟨_,rfl⟩;have hy257:y < 257:=by omega
     have hcy:wr.cell? ⟨g,y,none⟩=some (.int .i64 ((l.count y:Nat):Int)):=by rw [HB.out.cell];exact cntV_get _ hy257
     have hfy:=HB.out.free y;obtain ⟨z2,hz2⟩:∃ z2,z2=l.count y:=⟨_,rfl⟩
     have hz7:(z2:Int)≤1099511627776:=by
      have:=List.count_le_length (a:=y) (l:=l);have:=HLE.out;omega
     have hz6:(0:Int)≤(z2:Int):=by omega
     rw [← hz2] at hcy
     have HB3:=Lib.hid (show Blk (wr.setCell ⟨g,y,none⟩ (.int .i64 ((z2:Int)+1))) g 103 (cntV (symL (ss.take k) ++ 0 :: ((txt s).take (j+1)).map (· + 1))) from by
      have:=HB.out.set_ y (.int .i64 ((z2:Int)+1));rw [hz2,cntV_set _ hy257] at this;rw [hz2,HNX.out,← hy]
      exact this)
     have HK3:=Lib.hid (HK.out.setCell (p:=⟨g,y,none⟩) (.inl (by simp)) (.int .i64 ((z2:Int)+1)));have hy1:1+(x:Int)=(y:Int):=by omega
     have hy2:(0:Int)≤(y:Int):=by omega
     have hy3:(y:Int) < 257:=by omega
     clear hl hy hz2 HB HK;go_wp2_with fail;exact ⟨⟨j+1,by go_num,by omega,HB3,HK3⟩,by simp [intOf];omega⟩
    ·have hjd:decide ((j:Int) < (s.size:Int))=false:=by simp;omega
     have HBE:=Lib.hid (show Blk wr g 103 (cntV (symL (ss.take (k+1)))) from by
      have h1:=HB.out;rw [show (txt s).take j=txt s from List.take_of_length_le (by rw [txt_len];omega)] at h1;rw [take_snoc_ HSK.out,symL_snoc]
      exact h1)
     clear HB;go_wp2_with fail;exact ⟨⟨k+1,by go_num,by omega,HBE,HK⟩,by simp [intOf];omega⟩
  ·obtain rfl:n=k:=by omega
   have HBE:=Lib.hid (show Blk wr g 103 (cntV (symL ss)) from by
    have h1:=HB.out
    rwa [List.take_of_length_le (by rw [HN.out];exact Nat.le_refl _)] at h1)
   have HKE:=Lib.hid (HK0.out.trans' HK.out (fun x hx=>.inr (by rw [List.mem_singleton.1 hx,HG.out];exact Nat.le_refl _)))
   have hsi:(Tryz.prog.info? 103).map (·.size)=some (cntV (symL ss)).toArray.size:=by
    rw [show (cntV (symL ss)).toArray.size=257 from by simp [cntV_len]]
    kernel_rfl
   clear HB HK
   go_upto_region 11 with fail
   go_wp2_with (first
    | (refine wpList_load_row rfl 103 (.tmp 2) rfl g rfl 103 (cntV (symL ss)).toArray (0,0) _ HBE.out Tryz.underlying103 rfl hsi ?_)
    | (refine wpList_store_row rfl 103 (.tmp 2) (.tmp 32) rfl g (cntV (symL ss)).toArray rfl rfl 103 (cntV (symL ss)).toArray HBE.out hsi rfl (cntV_ok _) ?_))
   have hrow:=setRow_heap wr g (cntV (symL ss)).toArray (cntV (symL ss)).toArray 103 (0,0) HBE.out;refine bodyPost_ret (v:=.agg (cntV (symL ss)).toArray) (results_cell_row rfl _ _ g 103 _ (0,0) _ rfl hrow Tryz.underlying103 rfl hsi) rfl ⟨rfl,HKE.out.trans' (Kp.setRow wr g _) (fun x hx=>.inr (by rw [List.mem_singleton.1 hx,HG.out];exact Nat.le_refl _))⟩
theorem Rd.bl {w:World} {B:Nat} {A:Option Addr} {bs:List Bool} (h:Rd w B A (bs.map .bool)) {k:Nat} (hk:k < bs.length):∃ s ad,bs[k]? = some s∧A=some ad∧ad.block < B∧w.cell? (ad.add k)=some (.bool s):=by
 obtain ⟨ad,h1,h2,h3⟩:=h.at_ (i:=k) (u:=.bool bs[k]) (by rw [List.getElem?_map,List.getElem?_eq_getElem hk];rfl);exact ⟨_,ad,List.getElem?_eq_getElem hk,h1,h2,h3⟩
end Go.Proofs.YtanacapkfllbnaaGreatDoor
