/-
  THE CONTRACTS OF LAYER 2, third part: a row of noughts, a row of numbers.
  THE CONTRACTS OF LAYER 2, fourth part: New.
  THE CONTRACTS OF LAYER 2, fifth part: what a row tells.
  THE STATEMENT PackLeast OF LAYER 2, its walk, and the chapter's example (awake): the call returns true and writes to nothing that was there.
  THE CONTRACTS OF LAYER 2, sixth part: all numbers of a row; a place that is none; a row of the least width.
  THE CONTRACTS OF LAYER 2's REFERENCE: New.
  THE CONTRACTS OF LAYER 2's REFERENCE, second part: Of, At.
  THE CONTRACTS OF LAYER 2's REFERENCE, third part: At.
  THE CONTRACTS OF LAYER 2's REFERENCE, fourth part: Bytes, bit by bit.
  CONDITIONS: as each lemma says.
-/
import Derived.Test.YtanacapkfllbnaaGreatDoorR24
import Derived.Test.YtanacapkfllbnaaGreatDoorR04
import Derived.Test.YtanacapkfllbnaaGreatDoorR00
import Derived.Deep.QuietTactic
set_option maxRecDepth 100000
set_option maxHeartbeats 4000000
namespace Go.Proofs.YtanacapkfllbnaaGreatDoor.PK
open Go.RowKit

theorem Tryz.info_u64:(Tryz.prog.info? 149).map (fun i=>(i.zero,i.size,i.bytes))=some (some (.int .u64 0),1,8):=by kernel_rfl
def errRow (wd n:Int):Int:=if wd < 1 ∨ 60 < wd ∨ n < 0 then 2 else if 16777216 / wd < n then 3 else 0

set_option maxHeartbeats 1000000 in
theorem empty_no (wd n:Int) (w:World) (h:errRow wd n ≠ 0) :
  Calls Tryz.prog 158 #[.int .i64 wd,.int .i64 n] w fun e w'=>e=.returned (.tuple #[.pointer none,.int .i64 (errRow wd n)])∧w=w':=by
 by_cases h1:wd < 1
 ·have HE:=Lib.hid (show errRow wd n=2 by unfold errRow;rw [if_pos (.inl h1)]);clear h
  go_enter Tryz.func158,Tryz.ntmps158
  go_wp2_with fail;go_ret2;exact ⟨by rw [HE.out];rfl,rfl⟩
 by_cases h2:60 < wd
 ·have HE:=Lib.hid (show errRow wd n=2 by unfold errRow;rw [if_pos (.inr (.inl h2))]);clear h
  go_enter Tryz.func158,Tryz.ntmps158
  go_wp2_with fail;go_ret2;exact ⟨by rw [HE.out];rfl,rfl⟩
 by_cases h3:n < 0
 ·have HE:=Lib.hid (show errRow wd n=2 by unfold errRow;rw [if_pos (.inr (.inr h3))]);clear h
  go_enter Tryz.func158,Tryz.ntmps158
  go_wp2_with fail;go_ret2;exact ⟨by rw [HE.out];rfl,rfl⟩
 obtain ⟨q,hq⟩:∃ q,q=16777216 / wd:=⟨_,rfl⟩
 have h4:q < n:=by
  unfold errRow at h;rw [if_neg (by omega),← hq] at h;by_cases h5:q < n
  ·exact h5
  ·rw [if_neg h5] at h;exact absurd rfl h
 have HE:=Lib.hid (show errRow wd n=3 by unfold errRow;rw [if_neg (by omega),← hq,if_pos h4])
 have hqb:0≤q∧q≤16777216:=by
  rw [hq];exact ⟨Int.ediv_nonneg (by omega) (by omega),Int.ediv_le_self _ (by omega)⟩
 have hdv:Int.tdiv 16777216 wd=q:=by rw [Int.tdiv_eq_ediv_of_nonneg (by omega),hq]
 have hwq:IntKind.i64.wrap q=q:=by rw [IntKind.wrap_i64];omega
 have hwz:wd ≠ 0:=by omega
 clear h hq
 go_enter Tryz.func158,Tryz.ntmps158
 go_wp2_with fail;go_ret2;exact ⟨by rw [HE.out];rfl,rfl⟩

set_option maxHeartbeats 1000000 in
theorem empty_ok (wd n:Nat) (w:World) (h:errRow wd n=0) :
  Calls Tryz.prog 158 #[.int .i64 wd,.int .i64 n] w fun e w'=>∃ g p m,e=.returned (.tuple #[.pointer (some ⟨p,0,none⟩),.int .i64 0])∧m=(wd * n+63) / 64∧w.heap.size≤g∧w.heap.size≤p∧Blk w' g 149 (wordsV (List.replicate m 0)) ∧
   Blk w' p 198 [.slice (some ⟨g,0,none⟩) m m,.int .i64 wd,.int .i64 n]∧Kp [] w w':=by
 obtain ⟨i0,hi,hz0,hz1,hz2⟩:=info_parts Tryz.info_u64
 have hb:1≤wd∧wd≤60:=by
  unfold errRow at h;by_cases h1:(wd:Int) < 1 ∨ 60 < (wd:Int) ∨ (n:Int) < 0
  ·rw [if_pos h1] at h;cases h
  ·omega
 obtain ⟨q,hq⟩:∃ q,q=16777216 / wd:=⟨_,rfl⟩;have hqi:(16777216:Int) / (wd:Int)=(q:Int):=by rw [hq];simp
 have hnq:n≤q:=by
  unfold errRow at h;rw [if_neg (by omega),hqi] at h;by_cases h5:(q:Int) < (n:Int)
  ·rw [if_pos h5] at h;cases h
  ·omega
 obtain ⟨P,hP⟩:∃ P,P=wd * n:=⟨_,rfl⟩
 have hPb:P≤16777216:=by
  rw [hP];refine Nat.le_trans (Nat.mul_le_mul_left _ hnq) ?_;rw [hq];exact Nat.mul_div_le _ _
 have hqb:q≤16777216:=by rw [hq];exact Nat.div_le_self _ _
 have hdv:Int.tdiv 16777216 (wd:Int)=(q:Int):=by rw [Int.tdiv_eq_ediv_of_nonneg (by omega),hqi]
 have hwq:IntKind.i64.wrap (q:Int)=(q:Int):=by rw [IntKind.wrap_i64];omega
 have hwz:¬ wd=0:=by omega
 have hmul:(wd:Int) * (n:Int)=(P:Int):=by rw [hP];exact (Int.natCast_mul wd n).symm
 have hw1:IntKind.i64.wrap ((wd:Int) * (n:Int))=(P:Int):=by rw [hmul,IntKind.wrap_i64];omega
 have hw2:IntKind.i64.wrap ((P:Int)+64)=((P+64:Nat):Int):=by rw [IntKind.wrap_i64];omega
 have hw3:IntKind.i64.wrap ((P:Int)+64 - 1)=((P+63:Nat):Int):=by rw [IntKind.wrap_i64];omega
 obtain ⟨m,hm⟩:∃ m,m=(P+63) / 64:=⟨_,rfl⟩;have hw4:Int.tdiv ((P:Int)+63) 64=(m:Int):=by rw [Int.tdiv_eq_ediv_of_nonneg (by omega)];omega
 have hw5:IntKind.i64.wrap (m:Int)=(m:Int):=by rw [IntKind.wrap_i64];omega
 have hmb:m≤1000000:=by omega
 have hmk:=run_make_list (P:=Tryz.prog) 196 149 i0 (.int .u64 0) Tryz.underlying196 hi hz0 hz1 rfl .i64 .i64 m (by rw [hz2];omega) (by omega);have HM:=Lib.hid (show m=(wd * n+63) / 64 by rw [hm,hP]);clear h hq hqi hP hPb hmul hm hi hz0 hz1 hz2
 go_enter Tryz.func158,Tryz.ntmps158
 go_wp2_with fail;go_ret2;have b1:=Blk.new w 149 (List.replicate m (.int .u64 0));have b2:=Blk.new (w.alloc (.cells (List.replicate m (.int .u64 0)).toArray 149)) 198 [.slice (some ⟨w.heap.size,0,none⟩) m m,.int .i64 (wd:Int),.int .i64 (n:Int)];have e:(w.alloc (.cells (List.replicate m (.int .u64 0)).toArray 149)).heap.size=w.heap.size+1:=by simp
 rw [e] at b2;refine ⟨w.heap.size,w.heap.size+1,m,rfl,HM.out,Nat.le_refl _,Nat.le_succ _,?_,?_,((Kp.refl [] w).alloc _).alloc _⟩
 ·have:=b1.alloc (.cells [.slice (some ⟨w.heap.size,0,none⟩) m m,.int .i64 (wd:Int),.int .i64 (n:Int)].toArray 198);simpa [wordsV] using this
 ·simpa using b2
def packN (wd:Nat):List Nat→Nat
 | []=>0
 | x :: l=>x+2 ^ wd * packN wd l
theorem packN_snoc (wd:Nat):∀ (l:List Nat) (x:Nat),packN wd (l ++ [x])=packN wd l+x * 2 ^ (wd * l.length)
 | [],x=>by show x+2 ^ wd * 0=0+x * 2 ^ (wd * 0);simp
 | y :: l,x=>by
   show y+2 ^ wd * packN wd (l ++ [x])=y+2 ^ wd * packN wd l+x * 2 ^ (wd * (l.length+1))
   rw [packN_snoc,Nat.mul_add,Nat.mul_add wd,Nat.mul_one,Nat.pow_add];have:2 ^ wd * (x * 2 ^ (wd * l.length))=x * (2 ^ (wd * l.length) * 2 ^ wd):=by rw [Nat.mul_comm,Nat.mul_assoc]
   omega
theorem packN_lt {wd:Nat}:∀ {l:List Nat},(∀ x ∈ l,x < 2 ^ wd)→packN wd l < 2 ^ (wd * l.length)
 | [],_=>by show 0 < 2 ^ (wd * 0);exact Nat.two_pow_pos _
 | x :: l,h=>by
   have h1:=packN_lt (l:=l) (fun y hy=>h y (by simp [hy]));have h2:=h x (by simp)
   show x+2 ^ wd * packN wd l < 2 ^ (wd * (l.length+1))
   rw [Nat.mul_add,Nat.mul_one,Nat.add_comm (wd * l.length),Nat.pow_add];have h3:2 ^ wd * (packN wd l+1)≤2 ^ wd * 2 ^ (wd * l.length):=Nat.mul_le_mul_left _ h1;rw [Nat.mul_add,Nat.mul_one] at h3;omega
theorem packN_get {wd:Nat}:∀ {l:List Nat} {i x:Nat},(∀ x ∈ l,x < 2 ^ wd)→l[i]? = some x→packN wd l / 2 ^ (wd * i) % 2 ^ wd=x
 | [],i,x,_,hx=>by simp at hx
 | y :: l,0,x,h,hx=>by
   simp at hx
   subst hx
   show (y+2 ^ wd * packN wd l) / 2 ^ (wd * 0) % 2 ^ wd=y
   rw [Nat.mul_zero,Nat.pow_zero,Nat.div_one,Nat.add_mul_mod_self_left];exact Nat.mod_eq_of_lt (h y (by simp))
 | y :: l,i+1,x,h,hx=>by
   show (y+2 ^ wd * packN wd l) / 2 ^ (wd * (i+1)) % 2 ^ wd=x
   rw [Nat.mul_add,Nat.mul_one,Nat.add_comm (wd * i),Nat.pow_add,← Nat.div_div_eq_div_mul,Nat.add_mul_div_left _ _ (Nat.two_pow_pos _),Nat.div_eq_of_lt (h y (by simp)),Nat.zero_add];exact packN_get (fun z hz=>h z (by simp [hz])) (by simpa using hx)
theorem wideF_ge {l:List Int}:∀ (w:Nat),w≤wideF w l∧∀ x ∈ l,dgt x.toNat≤wideF w l:=by
 induction l with
 | nil=>intro w;exact ⟨Nat.le_refl _,fun x hx=>by cases hx⟩
 | cons y l ih =>
   intro w;have h:=ih (max w (dgt y.toNat))
   show w≤wideF (max w (dgt y.toNat)) l∧_
   refine ⟨by omega,fun x hx=>?_⟩
   show _≤wideF (max w (dgt y.toNat)) l
   rcases List.mem_cons.1 hx with rfl | hx
   ·omega
   ·exact h.2 x hx
theorem errRow_ok {wd n:Nat} (h:errRow wd n=0):1≤wd∧wd≤60∧wd * n≤16777216:=by
 have hb:1≤wd∧wd≤60:=by
  unfold errRow at h;by_cases h1:(wd:Int) < 1 ∨ 60 < (wd:Int) ∨ (n:Int) < 0
  ·rw [if_pos h1] at h;cases h
  ·omega
 obtain ⟨q,hq⟩:∃ q,q=16777216 / wd:=⟨_,rfl⟩;have hqi:(16777216:Int) / (wd:Int)=(q:Int):=by rw [hq];simp
 have hnq:n≤q:=by
  unfold errRow at h;rw [if_neg (by omega),hqi] at h;by_cases h5:(q:Int) < (n:Int)
  ·rw [if_pos h5] at h;cases h
  ·omega
 refine ⟨hb.1,hb.2,Nat.le_trans (Nat.mul_le_mul_left _ hnq) ?_⟩;rw [hq];exact Nat.mul_div_le _ _
theorem num_zero (m:Nat):num (List.replicate m 0)=0:=by
 induction m with
 | zero=>rfl
 | succ m ih=>rw [List.replicate_succ];show 0+2 ^ 64 * num _=0;rw [ih]
def fitN (wd:Int) (l:List Int):Prop:=okN l∧((wideF 1 l:Nat):Int)≤wd
def RowM (w:World) (b p wd:Nat) (ls:List Nat):Prop:=
 ∃ g ws,Blk w p 198 [.slice (some ⟨g,0,none⟩) ws.length ws.length,.int .i64 (wd:Int),.int .i64 (ls.length:Int)]∧Blk w g 149 (wordsV ws)∧(∀ x ∈ ws,x < 2 ^ 64)∧ws.length=(wd * ls.length+63) / 64 ∧
  num ws=packN wd ls∧(∀ x ∈ ls,x < 2 ^ wd)∧errRow wd ls.length=0∧b≤p∧b≤g
open Classical in
noncomputable def newE (wd:Int) (l:List Int):Int:=if fitN wd l then errRow wd l.length else 2

open Classical in
set_option maxHeartbeats 2000000 in
theorem new_any (wd:Int) (A:Option Addr) (n c B:Nat) (l:List Int) (w:World) (hx:Rd w B A (l.map (.int .i64))) (hn:l.length=n) (hb:n≤1000000000) (hs:Small l) :
  Calls Tryz.prog 131 #[.int .i64 wd,.slice A n c] w fun e w'=>Kp [] w w'∧((newE wd l ≠ 0∧e=.returned (.tuple #[.pointer none,.int .i64 (newE wd l)])) ∨
   (newE wd l=0∧fitN wd l∧∃ p,e=.returned (.tuple #[.pointer (some ⟨p,0,none⟩),.int .i64 0])∧RowM w' w.heap.size p wd.toNat (l.map Int.toNat))):=by
 have HX:=Lib.hid hx;clear hx;have HN:=Lib.hid hn;clear hn;have HS:=Lib.hid hs;clear hs
 go_enter Tryz.func131,Tryz.ntmps131
 go_wp2_with fail;refine (width_any A n c B l w HX.out HN.out hb HS.out).mono ?_;rintro e w1 ⟨rfl,rfl⟩;by_cases hok:okN l
 ·rw [wideL_ok hok,wideE_ok hok];obtain ⟨W,hW⟩:∃ W,W=wideF 1 l:=⟨_,rfl⟩;have hWb:=wideF_le hok;rw [← hW] at hWb ⊢;by_cases hfit:(W:Int)≤wd
  ·obtain ⟨D,rfl⟩:∃ D:Nat,wd=(D:Int):=⟨wd.toNat,by omega⟩;have HFT:=Lib.hid (show fitN (D:Int) l from ⟨hok,by rw [← hW];exact hfit⟩);have HE:=Lib.hid (show newE (D:Int) l=errRow D n by unfold newE;rw [if_pos HFT.out,HN.out]);clear hok hW;by_cases he0:errRow D n=0
   ·have HE0:=Lib.hid he0;clear he0;go_wp2_with fail;refine (empty_ok D n w HE0.out).mono ?_;rintro e w2 ⟨g,p,m,rfl,hm,hg,hp,hbg,hbp,hk2⟩;obtain ⟨hD1,hD2,hDn⟩:=errRow_ok HE0.out;have hgp:g ≠ p:=hbg.ne hbp (by decide);have HGP:=Lib.hid (show g ≠ p∧w.heap.size≤g∧w.heap.size≤p from ⟨hgp,hg,hp⟩)
    have hlv:∀ x ∈ l,0≤x∧x.toNat < 2 ^ D:=fun x hx=>by
     have h1:=HFT.out.1 x hx;have h2:=(wideF_ge (l:=l) 1).2 x hx;have h3:=HFT.out.2;have h4:=HS.out x hx;exact ⟨h1.1,Nat.lt_of_lt_of_le (dgt_lt (by omega)) (Nat.pow_le_pow_right (by omega) (by omega))⟩
    have HLV:=Lib.hid hlv;clear hlv;have HM:=Lib.hid hm;have HDN:=Lib.hid hDn;have hmb:m≤1000000:=by omega
    have HB0:=Lib.hid hbg;clear hbg;have HP0:=Lib.hid hbp;clear hbp;have HK:=Lib.hid hk2;clear hk2;clear hm hDn hgp hg hp;go_wp2_with fail
    go_loopw [36] (fun x wr=>∃ (k:Nat) (ws:List Nat),x=.int .i64 (k:Int)∧k≤n∧Hid (Blk wr g 149 (wordsV ws))∧Hid (ws.length=m)∧Hid (∀ x ∈ ws,x < 2 ^ 64)∧Hid (num ws=packN D ((l.take k).map Int.toNat))∧Hid (Blk wr p 198 [.slice (some ⟨g,0,none⟩) m m,.int .i64 (D:Int),.int .i64 (n:Int)])∧Hid (Kp [] w wr)) (fun x _=>n - (intOf x).toNat)
    case atStart=>exact ⟨0,List.replicate m 0,rfl,by omega,HB0,Lib.hid List.length_replicate,Lib.hid (fun x hx=>by rw [List.eq_of_mem_replicate hx];decide),Lib.hid (by rw [num_zero];rfl),HP0,HK⟩
    case round =>
     clear HB0 HP0 HK;obtain ⟨k,ws,rfl,hk,HB,HL,HLT,HNM,HP,HK⟩:=hrel;by_cases hlt:k < n
     ·obtain ⟨x,ad,hxk,rfl,_,hcx⟩:=(HX.out.kp0 HK.out).ix (i:=k) (by have:=HN.out;omega);have hxl:=HLV.out x (List.mem_of_getElem? hxk);obtain ⟨X,rfl⟩:∃ X:Nat,x=(X:Int):=⟨x.toNat,by omega⟩;rw [Int.toNat_natCast] at hxl;have hX64:X < 2 ^ 60:=Nat.lt_of_lt_of_le hxl.2 (Nat.pow_le_pow_right (by omega) hD2);have hwX:IntKind.u64.wrap (X:Int)=(X:Int):=by rw [u64_wrap_nat];omega
      obtain ⟨T,hT⟩:∃ T,T=k * D:=⟨_,rfl⟩;have hkD:(k+1) * D≤n * D:=Nat.mul_le_mul_right _ hlt;have hTD:T+D≤D * n:=by rw [hT,Nat.mul_comm D n];rw [Nat.add_mul,Nat.one_mul] at hkD;exact hkD
      have hmul:(k:Int) * (D:Int)=(T:Int):=by rw [hT];exact (Int.natCast_mul k D).symm
      have hwT:IntKind.i64.wrap ((k:Int) * (D:Int))=(T:Int):=by rw [hmul,IntKind.wrap_i64];have:=HDN.out;omega
      have c0:=HP.out.cell 0;simp only [List.getElem?_cons_zero] at c0
      have hTm:T+D≤64 * m:=by have:=HM.out;omega
      have hz:num ws < 2 ^ T:=by
       rw [HNM.out]
       have h1:=packN_lt (wd:=D) (l:=(l.take k).map Int.toNat) (fun z hz=>by
        obtain ⟨z',hz',rfl⟩:=List.mem_map.1 hz
        exact (HLV.out z' (List.mem_of_mem_take hz')).2)
       rw [List.length_map,List.length_take,Nat.min_eq_left (by rw [HN.out];omega),Nat.mul_comm D k,← hT] at h1;exact h1
      have HZ:=Lib.hid hz;have HXL:=Lib.hid hxl.2;have HXK:=Lib.hid hxk;have HTT:=Lib.hid hT;clear hz hxl hxk hT hmul hkD hTD;go_wp2_with fail;refine (put_any g m m T D X ws wr HB.out HL.out HLT.out HZ.out HXL.out hTm hD1 hD2 (by omega)).mono ?_;rintro e w3 ⟨ws',rfl,hb3,hl3,hlt3,hn3,hk3⟩;have HB3:=Lib.hid hb3;have HP3:=Lib.hid (HP.out.kp hk3 (by simp only [List.mem_singleton];exact Ne.symm HGP.out.1));have HK3:=Lib.hid (HK.out.trans' hk3 (by intro z hz;simp only [List.mem_singleton] at hz;subst hz;exact .inr HGP.out.2.1))
      have HN3:=Lib.hid (show num ws'=packN D ((l.take (k+1)).map Int.toNat) by
       rw [take_succ_of HXK.out,List.map_append,hn3,HNM.out]
       show _=packN D ((l.take k).map Int.toNat ++ [X])
       rw [packN_snoc,List.length_map,List.length_take,Nat.min_eq_left (by rw [HN.out];omega),Nat.mul_comm D k,← HTT.out])
      clear hb3 hn3 hk3 HB HP HK;go_wp2_with fail;exact ⟨⟨k+1,ws',by go_num,by omega,HB3,Lib.hid hl3,Lib.hid hlt3,HN3,HP3,HK3⟩,by simp [intOf];omega⟩
     ·obtain rfl:n=k:=by omega
      have HROW:=Lib.hid (show RowM wr w.heap.size p D (l.map Int.toNat) from by
       refine ⟨g,ws,?_,HB.out,HLT.out,?_,?_,?_,?_,HGP.out.2.2,HGP.out.2.1⟩
       ·rw [List.length_map,HN.out,HL.out];exact HP.out
       ·rw [List.length_map,HN.out,HL.out,HM.out]
       ·rw [HNM.out,List.take_of_length_le (by rw [HN.out];exact Nat.le_refl _)]
       ·intro z hz;obtain ⟨z',hz',rfl⟩:=List.mem_map.1 hz;exact (HLV.out z' hz').2
       ·rw [List.length_map,HN.out];exact HE0.out)
      go_wp2_with fail;go_ret2;exact ⟨HK.out,.inr ⟨by rw [HE.out];exact HE0.out,HFT.out,p,rfl,by rw [Int.toNat_natCast];exact HROW.out⟩⟩
   ·have HNE:=Lib.hid he0;clear he0;go_wp2_with fail;refine (empty_no D n w HNE.out).mono ?_;rintro e w2 ⟨rfl,rfl⟩;obtain ⟨E,hE⟩:∃ E,E=errRow D n:=⟨_,rfl⟩;have hE0:(E != 0)=true:=by rw [hE];simpa using HNE.out
    rw [← hE];have HEE:=Lib.hid hE;clear hE;go_wp2_with fail;go_ret2;exact ⟨Kp.refl [] w,.inl ⟨by rw [HE.out];exact HNE.out,by rw [HE.out,← HEE.out];rfl⟩⟩
  ·have HNF:=Lib.hid (show newE wd l=2 by unfold newE;rw [if_neg (fun h=>hfit (by have:=h.2;rw [← hW] at this;exact this))]);clear hok hW;go_wp2_with fail;go_ret2;exact ⟨Kp.refl [] w,.inl ⟨by rw [HNF.out];decide,by rw [HNF.out];rfl⟩⟩
 ·rw [wideL_no hok,wideE_no hok];have HNF:=Lib.hid (show newE wd l=2 by unfold newE;rw [if_neg (fun h=>hok h.1)]);clear hok;go_wp2_with fail;go_ret2;exact ⟨Kp.refl [] w,.inl ⟨by rw [HNF.out];decide,by rw [HNF.out];rfl⟩⟩
theorem RowM.kp0 {w w':World} {b p wd:Nat} {ls:List Nat} (h:RowM w b p wd ls) (hk:Kp [] w w'):RowM w' b p wd ls:=by
 obtain ⟨g,ws,h1,h2,h3⟩:=h;exact ⟨g,ws,h1.kp0 hk,h2.kp0 hk,h3⟩
theorem RowM.cells {w:World} {b p wd:Nat} {ls:List Nat} (h:RowM w b p wd ls):w.cell? ⟨p,1,none⟩=some (.int .i64 (wd:Int))∧w.cell? ⟨p,2,none⟩=some (.int .i64 (ls.length:Int))∧1≤wd∧wd≤60∧wd * ls.length≤16777216:=by
 obtain ⟨g,ws,h1,_,_,_,_,_,he,_⟩:=h;have:=errRow_ok he;exact ⟨by rw [h1.cell];rfl,by rw [h1.cell];rfl,this⟩

theorem there_any (b p wd:Nat) (ls:List Nat) (w:World) (h:RowM w b p wd ls) :
  Calls Tryz.prog 133 #[.pointer (some ⟨p,0,none⟩)] w fun e w'=>e=.returned (.bool true)∧w=w':=by
 obtain ⟨c1,c2,h1,h2,h3⟩:=h.cells;have hd:decide (0 < wd)=true:=by simp;omega
 clear h3
 go_enter Tryz.func133,Tryz.ntmps133
 go_wp2_with fail;go_ret;exact ⟨rfl,rfl⟩
theorem rlen_any (b p wd n:Nat) (ls:List Nat) (w:World) (h:RowM w b p wd ls) (hn:ls.length=n) :
  Calls Tryz.prog 134 #[.pointer (some ⟨p,0,none⟩)] w fun e w'=>e=.returned (.int .i64 (n:Int))∧w=w':=by
 obtain ⟨c1,c2,h1,h2,h3⟩:=h.cells;rw [hn] at c2;clear h3
 go_enter Tryz.func134,Tryz.ntmps134
 go_wp2_with fail;refine (there_any b p wd ls w h).mono ?_;rintro e w1 ⟨rfl,rfl⟩;go_wp2_with fail;go_ret;exact ⟨rfl,rfl⟩
theorem rwide_any (b p wd:Nat) (ls:List Nat) (w:World) (h:RowM w b p wd ls) :
  Calls Tryz.prog 79 #[.pointer (some ⟨p,0,none⟩)] w fun e w'=>e=.returned (.int .i64 (wd:Int))∧w=w':=by
 obtain ⟨c1,c2,h1,h2,h3⟩:=h.cells;clear h3
 go_enter Tryz.func79,Tryz.ntmps79
 go_wp2_with fail;refine (there_any b p wd ls w h).mono ?_;rintro e w1 ⟨rfl,rfl⟩;go_wp2_with fail;go_ret;exact ⟨rfl,rfl⟩

def bytesN (N:Nat) (k:Nat):List Int:=(List.range k).map fun i=>((N / 2 ^ (8 * i) % 256:Nat):Int)
theorem bytesN_succ (N k:Nat):bytesN N (k+1)=bytesN N k ++ [((N / 2 ^ (8 * k) % 256:Nat):Int)]:=by simp [bytesN,List.range_succ]

set_option maxHeartbeats 1000000 in
theorem rbytes_any (b p wd:Nat) (ls:List Nat) (w:World) (h:RowM w b p wd ls) :
  Calls Tryz.prog 80 #[.pointer (some ⟨p,0,none⟩)] w fun e w'=>∃ A m c,m=(wd * ls.length+7) / 8∧e=.returned (.slice A m c)∧w'.ownsRow w.heap.size 5 1 (.slice A m c) m ((bytesN (packN wd ls) m).map (.int .u8))∧Kp [] w w':=by
 obtain ⟨i0,hi,hz0,hz1,hz2⟩:=info_parts Tryz.info_u8;obtain ⟨n,hn⟩:∃ n,n=ls.length:=⟨_,rfl⟩;have HH:=Lib.hid h;obtain ⟨g,ws,h1,h2,h3,h4,h5,h6,he,_⟩:=h;obtain ⟨d1,d2,d3⟩:=errRow_ok he;rw [← hn] at d3 h4;obtain ⟨P,hP⟩:∃ P,P=wd * n:=⟨_,rfl⟩;rw [← hP] at d3 h4;have hmul:(n:Int) * (wd:Int)=(P:Int):=by rw [hP,Nat.mul_comm];exact (Int.natCast_mul n wd).symm
 have hw1:IntKind.i64.wrap ((n:Int) * (wd:Int))=(P:Int):=by rw [hmul,IntKind.wrap_i64];omega
 have hw2:IntKind.i64.wrap ((P:Int)+7)=((P+7:Nat):Int):=by rw [IntKind.wrap_i64];omega
 obtain ⟨m,hm⟩:∃ m,m=(P+7) / 8:=⟨_,rfl⟩;have hw3:Int.tdiv ((P:Int)+7) 8=(m:Int):=by rw [Int.tdiv_eq_ediv_of_nonneg (by omega)];omega
 have hwm:IntKind.i64.wrap (m:Int)=(m:Int):=by rw [IntKind.wrap_i64];omega
 have hmb:m≤3000000:=by omega
 have HM:=Lib.hid (show m=(wd * ls.length+7) / 8 by rw [hm,hP,hn]);have HW:=Lib.hid (show Blk w g 149 (wordsV ws) from h2);have HR:=Lib.hid h1;have HLT:=Lib.hid h3;have HNM:=Lib.hid h5;obtain ⟨u,hu⟩:∃ u,u=ws.length:=⟨_,rfl⟩;have HU:=Lib.hid hu;have hmu:m≤8 * u:=by rw [hu,h4,hm];omega
 have HN:=Lib.hid hn;clear h1 h2 h3 h4 h5 h6 he hmul hm hP hn hu d3
 go_enter Tryz.func80,Tryz.ntmps80
 go_wp2_with fail;refine (rlen_any b p wd n ls w HH.out HN.out.symm).mono ?_;rintro e w1 ⟨rfl,rfl⟩;go_wp2_with fail;refine (rwide_any b p wd ls w HH.out).mono ?_;rintro e w1 ⟨rfl,rfl⟩;go_wp2_with fail
 go_loopw [2,11] (fun y x wr=>∃ (k c1:Nat) (A1:Option Addr),x=.int .i64 (k:Int)∧y=.slice A1 k c1∧k≤m∧Hid (wr.ownsRow w.heap.size 5 1 (.slice A1 k c1) k ((bytesN (packN wd ls) k).map (.int .u8)))∧Hid (Kp [] w wr)) (fun _ x _=>m - (intOf x).toNat)
 case atStart=>exact ⟨0,0,none,rfl,rfl,by omega,Lib.hid ⟨rfl,.inl ⟨rfl,rfl⟩⟩,Lib.hid (Kp.refl [] w)⟩
 case round =>
  obtain ⟨k,c1,A1,rfl,rfl,hk,HO,HK⟩:=hrel;by_cases hlt:k < m
  ·have c0:wr.cell? ⟨p,0,none⟩=some (.slice (some ⟨g,0,none⟩) u u):=by rw [(HR.out.kp0 HK.out).cell,HU.out];rfl
   obtain ⟨q,hq⟩:∃ q,q=k / 8:=⟨_,rfl⟩;obtain ⟨r,hr⟩:∃ r,r=k % 8:=⟨_,rfl⟩;have hdiv:(k:Int).tdiv 8=(q:Int):=by rw [Int.tdiv_eq_ediv_of_nonneg (by omega)];omega
   have hmod:(k:Int).tmod 8=(r:Int):=by rw [Int.tmod_eq_emod_of_nonneg (by omega)];omega
   have hwq:IntKind.i64.wrap (q:Int)=(q:Int):=by rw [IntKind.wrap_i64];omega
   have hwr:IntKind.i64.wrap (r:Int)=(r:Int):=by rw [IntKind.wrap_i64];omega
   have hqu:q < u:=by omega
   obtain ⟨r8,hr8⟩:∃ r8,r8=r * 8:=⟨_,rfl⟩;have hw8:IntKind.i64.wrap ((r:Int) * 8)=(r8:Int):=by rw [IntKind.wrap_i64];omega
   have hr864:r8 < 64:=by omega
   obtain ⟨x,hx⟩:∃ x,ws[q]? = some x:=⟨_,List.getElem?_eq_getElem (by rw [← HU.out];exact hqu)⟩;have cx:wr.cell? ⟨g,q,none⟩=some (.int .u64 (x:Int)):=by rw [(HW.out.kp0 HK.out).cell];exact wordsV_get hx
   obtain ⟨X,hX⟩:∃ X,X=x / 2 ^ r8:=⟨_,rfl⟩;have hdx:(x:Int) / 2 ^ r8=(X:Int):=by rw [hX];simp
   have hdx':(x:Int) / 2 ^ min r8 64=(X:Int):=by rw [show min r8 64=r8 from by omega];exact hdx
   obtain ⟨V,hV⟩:∃ V,V=X % 256:=⟨_,rfl⟩
   have hwV:IntKind.u8.wrap (X:Int)=(V:Int):=by
    have:IntKind.u8.wrap (X:Int)=(X:Int) % 256:=by simp [IntKind.wrap,IntKind.signed,IntKind.bits]
    rw [this,hV];omega
   have HVAL:=Lib.hid (show packN wd ls / 2 ^ (8 * k) % 256=V by
    have:=num_get (wd:=8) (r:=r8) HLT.out hx (by omega);rw [← HNM.out,show 8 * k=64 * q+r8 from by omega];rw [hV,hX]
    exact this)
   have HRX:=Lib.hid (show Rd (wr.alloc (.cells #[.int .u8 (V:Int)] 5)) (wr.heap.size+1) (some ⟨wr.heap.size,0,none⟩) [.int .u8 (V:Int)] from Rd.new wr #[.int .u8 (V:Int)] 5 (0,0));clear hq hr hr8 hx hX hV
   go_wp2_with (at_builtin;go_loud (refine wpList_append_rd rfl (.tmp 14) (.tmp 28) 41 rfl w.heap.size 5 i0 (.int .u8 0) 1 1 Tryz.underlying41 hi hz0 hz1 hz2 rfl (by decide) _ k _ rfl (own_kp0 HO.out ((Kp.refl [] _).alloc _)) _ _ 1 1 [.int .u8 (V:Int)] rfl rfl HRX.out (by simp [Value.oneCell']) (by unfold maxLen;omega) (by omega) (Nat.le_trans HK.out.size (by simp)) ?_);intro v2 w2 hown2 hgrow2 hat2
                obtain ⟨A3,c3,rfl,_⟩:=own_form hown2;have HK2:=Lib.hid ((HK.out.alloc (.cells #[.int .u8 (V:Int)] 5)).grown hgrow2 (fun g hg=>.inr (own_ge HO.out hg).1));have HO2:=Lib.hid hown2
                clear hown2 hgrow2 hat2)
   exact ⟨⟨k+1,c3,A3,by go_num,rfl,by omega,Lib.hid (by rw [bytesN_succ,List.map_append,HVAL.out];exact HO2.out),HK2⟩,by simp [intOf];omega⟩
  ·obtain rfl:m=k:=by omega
   go_wp2_with fail;go_ret;exact ⟨A1,m,c1,HM.out,rfl,HO.out,HK.out⟩
def intsN (ls:List Nat):List Int:=ls.map fun x=>((x:Nat):Int)
open Classical in
noncomputable def ofE (l:List Int):Int:=if okN l then newE (wideF 1 l) l else 2
set_option maxHeartbeats 1000000 in
theorem of_any (A:Option Addr) (n c B:Nat) (l:List Int) (w:World) (hx:Rd w B A (l.map (.int .i64))) (hn:l.length=n) (hb:n≤1000000000) (hs:Small l) :
  Calls Tryz.prog 72 #[.slice A n c] w fun e w'=>Kp [] w w'∧((ofE l ≠ 0∧e=.returned (.tuple #[.pointer none,.int .i64 (ofE l)])) ∨
   (ofE l=0∧okN l∧∃ p,e=.returned (.tuple #[.pointer (some ⟨p,0,none⟩),.int .i64 0])∧RowM w' w.heap.size p (wideF 1 l) (l.map Int.toNat))):=by
 have HX:=Lib.hid hx;clear hx;have HN:=Lib.hid hn;clear hn;have HS:=Lib.hid hs;clear hs
 go_enter Tryz.func72,Tryz.ntmps72
 go_wp2_with fail;refine (width_any A n c B l w HX.out HN.out hb HS.out).mono ?_;rintro e w1 ⟨rfl,rfl⟩;by_cases hok:okN l
 ·rw [wideL_ok hok,wideE_ok hok];have HE:=Lib.hid (show ofE l=newE (wideF 1 l) l by unfold ofE;rw [if_pos hok]);have HOK:=Lib.hid hok;clear hok;obtain ⟨W,hW⟩:∃ W,W=wideF 1 l:=⟨_,rfl⟩;rw [← hW] at HE ⊢;have HW:=Lib.hid hW;clear hW;go_wp2_with fail;refine (new_any W A n c B l w HX.out HN.out hb HS.out).mono ?_;rintro e w2 ⟨hk2,⟨hne,rfl⟩ | ⟨hz,_,p,rfl,hrow⟩⟩
  ·go_wp2_with fail;go_ret2;exact ⟨hk2,.inl ⟨by rw [HE.out];exact hne,by rw [HE.out];rfl⟩⟩
  ·rw [Int.toNat_natCast] at hrow;have HROW:=Lib.hid hrow;clear hrow;go_wp2_with fail;go_ret2;exact ⟨hk2,.inr ⟨by rw [HE.out];exact hz,HOK.out,p,rfl,by rw [← HW.out];exact HROW.out⟩⟩
 ·rw [wideL_no hok,wideE_no hok];have HE:=Lib.hid (show ofE l=2 by unfold ofE;rw [if_neg hok]);clear hok;go_wp2_with fail;go_ret2;exact ⟨Kp.refl [] w,.inl ⟨by rw [HE.out];decide,by rw [HE.out];rfl⟩⟩
def RowR (w:World) (b p:Nat) (wd:Int) (l:List Int):Prop:=
 ∃ A c,Blk w p 94 [.int .i64 wd,.slice A l.length c]∧Rd w w.heap.size A (l.map (.int .i64))∧l.length≤c∧b≤p∧∀ ad,A=some ad→b≤ad.block
theorem RowR.kp {w w':World} {b p:Nat} {wd:Int} {l:List Int} {S:List Nat} (h:RowR w b p wd l) (hk:Kp S w w') (hS:∀ g ∈ S,g < b):RowR w' b p wd l:=by
 obtain ⟨A,c,h1,h2,h3,h4,h5⟩:=h;exact ⟨A,c,h1.kp hk (fun hm=>by have:=hS _ hm;omega),(h2.kp_ne hk (fun ad e hm=>by have:=hS _ hm;have:=h5 ad e;omega)).here,h3,h4,h5⟩
theorem RowR.kp0 {w w':World} {b p:Nat} {wd:Int} {l:List Int} (h:RowR w b p wd l) (hk:Kp [] w w'):RowR w' b p wd l:=h.kp hk (by simp)
theorem RowM.kp {w w':World} {b p wd:Nat} {ls:List Nat} {S:List Nat} (h:RowM w b p wd ls) (hk:Kp S w w') (hS:∀ g ∈ S,g < b):RowM w' b p wd ls:=by
 obtain ⟨g,ws,h1,h2,h3,h4,h5,h6,h7,h8,h9⟩:=h;exact ⟨g,ws,h1.kp hk (fun hm=>by have:=hS _ hm;omega),h2.kp hk (fun hm=>by have:=hS _ hm;omega),h3,h4,h5,h6,h7,h8,h9⟩
theorem own_empty (w:World) {base:Nat} (h:base≤w.heap.size):(w.alloc (.cells #[] 3)).ownsRow base 3 1 (.slice (some ⟨w.heap.size,0,none⟩) 0 0) 0 []:=
 own_of_blk (xs:=[]) (rest:=[]) (Blk.new w 3 []) h (Nat.le_refl _) (Nat.zero_le _) rfl rfl

set_option maxHeartbeats 1000000 in
theorem rnew_any (wd:Int) (A:Option Addr) (n c B:Nat) (l:List Int) (w:World) (hx:Rd w B A (l.map (.int .i64))) (hn:l.length=n) (hb:n≤1000000000) (hs:Small l) :
  Calls Tryz.prog 96 #[.int .i64 wd,.slice A n c] w fun e w'=>Kp [] w w'∧((newE wd l ≠ 0∧e=.returned (.tuple #[.pointer none,.int .i64 (newE wd l)])) ∨
   (newE wd l=0∧∃ p,e=.returned (.tuple #[.pointer (some ⟨p,0,none⟩),.int .i64 0])∧RowR w' w.heap.size p wd l)):=by
 obtain ⟨i0,hi,hz0,hz1,hz2⟩:=info_parts Tryz.info_int;have HX:=Lib.hid hx;clear hx;have HN:=Lib.hid hn;clear hn;have HS:=Lib.hid hs;clear hs
 go_enter Tryz.func96,Tryz.ntmps96
 go_wp2_with fail;refine (rwidth_any A n c B l w HX.out HN.out hb HS.out).mono ?_;rintro e w1 ⟨rfl,rfl⟩;by_cases hok:okN l
 ·rw [wideL_ok hok,wideE_ok hok];obtain ⟨W,hW⟩:∃ W,W=wideF 1 l:=⟨_,rfl⟩;have hWb:=wideF_le hok;rw [← hW] at hWb ⊢;have HFIT:=Lib.hid (show fitN wd l ↔ (W:Int)≤wd from ⟨fun h=>by rw [hW];exact h.2,fun h=>⟨hok,by rw [← hW];exact h⟩⟩);clear hW hok;by_cases h1:wd < 1
  ·have HE:=Lib.hid (show newE wd l=2 by unfold newE;rw [if_neg (fun h=>by have:=HFIT.out.1 h;omega)]);go_wp2_with fail;go_ret2;exact ⟨Kp.refl [] w,.inl ⟨by rw [HE.out];decide,by rw [HE.out];rfl⟩⟩
  by_cases h2:60 < wd
  ·have HE:=Lib.hid (show newE wd l=2 by
    unfold newE;by_cases hf:fitN wd l
    ·rw [if_pos hf];unfold errRow;rw [if_pos (.inr (.inl h2))]
    ·rw [if_neg hf])
   go_wp2_with fail;go_ret2;exact ⟨Kp.refl [] w,.inl ⟨by rw [HE.out];decide,by rw [HE.out];rfl⟩⟩
  by_cases h3:wd < (W:Int)
  ·have HE:=Lib.hid (show newE wd l=2 by unfold newE;rw [if_neg (fun h=>by have:=HFIT.out.1 h;omega)]);go_wp2_with fail;go_ret2;exact ⟨Kp.refl [] w,.inl ⟨by rw [HE.out];decide,by rw [HE.out];rfl⟩⟩
  obtain ⟨q,hq⟩:∃ q,q=16777216 / wd:=⟨_,rfl⟩
  have hqb:0≤q∧q≤16777216:=by
   rw [hq];exact ⟨Int.ediv_nonneg (by omega) (by omega),Int.ediv_le_self _ (by omega)⟩
  have hdv:Int.tdiv 16777216 wd=q:=by rw [Int.tdiv_eq_ediv_of_nonneg (by omega),hq]
  have hwq:IntKind.i64.wrap q=q:=by rw [IntKind.wrap_i64];omega
  have hwz:wd ≠ 0:=by omega
  have hee:newE wd l=if q < (n:Int) then 3 else 0:=by
   unfold newE;rw [if_pos (HFIT.out.2 (by omega)),HN.out];unfold errRow;rw [if_neg (by omega),← hq]
  by_cases h4:q < (n:Int)
  ·rw [if_pos h4] at hee;have HE:=Lib.hid hee;clear hee hq;go_wp2_with fail;go_ret2;exact ⟨Kp.refl [] w,.inl ⟨by rw [HE.out];decide,by rw [HE.out];rfl⟩⟩
  ·rw [if_neg h4] at hee;have HE:=Lib.hid hee;clear hee hq
   go_wp2_with (at_builtin;go_loud (refine wpList_append_rd rfl (.tmp 34) (.tmp 35) 81 rfl w.heap.size 3 i0 (.int .i64 0) 1 8 Tryz.underlying81 hi hz0 hz1 hz2 rfl (by decide) _ 0 _ rfl (own_empty w (Nat.le_refl _)) _ _ n c (l.map (.int .i64)) rfl (by rw [List.length_map,HN.out,Nat.mul_one]) (HX.out.kp0 ((Kp.refl [] w).alloc _)) (oc_ints _ _) (by unfold maxLen;omega) (by omega) (by simp) ?_);intro v2 w2 hown2 hgrow2 hat2
                simp only [Nat.zero_add,List.nil_append] at hown2
                obtain ⟨A2,c2,rfl,hc2,_,_,hge2⟩:=own_form hown2;have HGE:=Lib.hid (show ∀ ad,A2=some ad→w.heap.size≤ad.block from fun ad h=>(hge2 ad h).2.2.1);clear hge2;have HO2:=Lib.hid hown2;have HK2:=Lib.hid (((Kp.refl [] w).alloc (.cells #[] 3)).grown hgrow2 (fun g hg=>.inr (own_ge (own_empty w (Nat.le_refl _)) hg).1))
                clear hown2 hgrow2 hat2)
   go_ret2;have hb2:=Blk.new w2 94 [.int .i64 wd,.slice A2 n c2];exact ⟨HK2.out.alloc _,.inr ⟨HE.out,w2.heap.size,rfl,A2,c2,by rw [HN.out];exact hb2,((own_rd HO2.out).kp0 ((Kp.refl [] w2).alloc _)).here,by rw [HN.out];exact hc2,HK2.out.size,HGE.out⟩⟩
 ·rw [wideL_no hok,wideE_no hok];have HE:=Lib.hid (show newE wd l=2 by unfold newE;rw [if_neg (fun h=>hok h.1)]);clear hok;go_wp2_with fail;go_ret2;exact ⟨Kp.refl [] w,.inl ⟨by rw [HE.out];decide,by rw [HE.out];rfl⟩⟩
set_option maxHeartbeats 1000000 in
theorem rof_any (A:Option Addr) (n c B:Nat) (l:List Int) (w:World) (hx:Rd w B A (l.map (.int .i64))) (hn:l.length=n) (hb:n≤1000000000) (hs:Small l) :
  Calls Tryz.prog 46 #[.slice A n c] w fun e w'=>Kp [] w w'∧((ofE l ≠ 0∧e=.returned (.tuple #[.pointer none,.int .i64 (ofE l)])) ∨
   (ofE l=0∧∃ p,e=.returned (.tuple #[.pointer (some ⟨p,0,none⟩),.int .i64 0])∧RowR w' w.heap.size p (wideF 1 l) l)):=by
 have HX:=Lib.hid hx;clear hx;have HN:=Lib.hid hn;clear hn;have HS:=Lib.hid hs;clear hs
 go_enter Tryz.func46,Tryz.ntmps46
 go_wp2_with fail;refine (rwidth_any A n c B l w HX.out HN.out hb HS.out).mono ?_;rintro e w1 ⟨rfl,rfl⟩;by_cases hok:okN l
 ·rw [wideL_ok hok,wideE_ok hok];have HE:=Lib.hid (show ofE l=newE (wideF 1 l) l by unfold ofE;rw [if_pos hok]);clear hok;obtain ⟨W,hW⟩:∃ W,W=wideF 1 l:=⟨_,rfl⟩;rw [← hW] at HE ⊢;have HW:=Lib.hid hW;clear hW;go_wp2_with fail;refine (rnew_any W A n c B l w HX.out HN.out hb HS.out).mono ?_;rintro e w2 ⟨hk2,⟨hne,rfl⟩ | ⟨hz,p,rfl,hrow⟩⟩
  ·go_wp2_with fail;go_ret2;exact ⟨hk2,.inl ⟨by rw [HE.out];exact hne,by rw [HE.out];rfl⟩⟩
  ·have HROW:=Lib.hid hrow;clear hrow;go_wp2_with fail;go_ret2;exact ⟨hk2,.inr ⟨by rw [HE.out];exact hz,p,rfl,by rw [← HW.out];exact HROW.out⟩⟩
 ·rw [wideL_no hok,wideE_no hok];have HE:=Lib.hid (show ofE l=2 by unfold ofE;rw [if_neg hok]);clear hok;go_wp2_with fail;go_ret2;exact ⟨Kp.refl [] w,.inl ⟨by rw [HE.out];decide,by rw [HE.out];rfl⟩⟩
theorem bytesN_len (N m:Nat):(bytesN N m).length=m:=by simp [bytesN]
theorem bytesN_get (N:Nat) {m j:Nat} (h:j < m):(bytesN N m)[j]? = some ((N / 2 ^ (8 * j) % 256:Nat):Int):=by simp [bytesN,h]
theorem bytesN_zero (m:Nat):bytesN 0 m=List.replicate m 0:=by
 refine List.eq_replicate_iff.2 ⟨bytesN_len _ _,fun v hv=>?_⟩;obtain ⟨k,_,rfl⟩:=List.mem_map.1 hv
 simp
theorem bytesN_step {N a m:Nat} (h:a / 8 < m):(bytesN (N % 2 ^ a) m).set (a / 8) (((N % 2 ^ a / 2 ^ (8 * (a / 8)) % 256+(N / 2 ^ a % 2) * 2 ^ (a % 8):Nat)):Int)=bytesN (N % 2 ^ (a+1)) m:=by
 apply List.ext_getElem?
 intro j;rw [List.getElem?_set,bytesN_len];have hM:N % 2 ^ a < 2 ^ a:=Nat.mod_lt _ (Nat.two_pow_pos _);have hb:N / 2 ^ a % 2≤1:=by omega
 by_cases hj:a / 8=j
 ·rw [if_pos hj,if_pos h,← hj,bytesN_get _ h,mod_step,byte_step hM hb,if_pos rfl]
 ·rw [if_neg hj];by_cases hjm:j < m
  ·rw [bytesN_get _ hjm,bytesN_get _ hjm,mod_step,byte_step hM hb,if_neg (fun e=>hj e.symm),Nat.add_zero]
  ·rw [List.getElem?_eq_none (by rw [bytesN_len];omega),List.getElem?_eq_none (by rw [bytesN_len];omega)]
theorem bit_at {wd i k x:Nat} {ls:List Nat} (hl:∀ x ∈ ls,x < 2 ^ wd) (hx:ls[i]? = some x) (hk:k < wd):packN wd ls / 2 ^ (wd * i+k) % 2=x / 2 ^ k % 2:=by
 have h:=packN_get hl hx;have e:=Nat.div_add_mod (packN wd ls / 2 ^ (wd * i)) (2 ^ wd);rw [h] at e;rw [Nat.pow_add,← Nat.div_div_eq_div_mul,← e]
 generalize packN wd ls / 2 ^ (wd * i) / 2 ^ wd=q
 have e2:2 ^ wd * q=2 ^ k * (2 * (2 ^ (wd - k - 1) * q)):=by
  rw [← Nat.mul_assoc 2,← Nat.mul_assoc]
  congr 1
  rw [show (2:Nat) * 2 ^ (wd - k - 1)=2 ^ (wd - k - 1+1) from by rw [Nat.pow_succ,Nat.mul_comm],← Nat.pow_add];exact congrArg (2 ^ ·) (by omega)
 rw [e2,Nat.add_comm,Nat.add_mul_div_left _ _ (Nat.two_pow_pos _),Nat.add_mul_mod_self_left]

set_option maxHeartbeats 2000000 in
theorem refbytes_any (b p wd:Nat) (ls:List Nat) (w:World) (h:RowR w b p wd (intsN ls)) (hl:∀ x ∈ ls,x < 2 ^ wd) (he:errRow wd ls.length=0) :
  Calls Tryz.prog 47 #[.pointer (some ⟨p,0,none⟩)] w fun e w'=>∃ g m,m=(wd * ls.length+7) / 8∧e=.returned (.slice (some ⟨g,0,none⟩) m m)∧Blk w' g 5 ((bytesN (packN wd ls) m).map (.int .u8))∧w.heap.size≤g∧Kp [] w w':=by
 obtain ⟨i0,hi,hz0,hz1,hz2⟩:=info_parts Tryz.info_u8;obtain ⟨A,c,h1,h2,_,_⟩:=h;obtain ⟨d1,d2,d3⟩:=errRow_ok he;obtain ⟨n,hn⟩:∃ n,n=ls.length:=⟨_,rfl⟩;have hil:(intsN ls).length=n:=by rw [hn];simp [intsN]
 rw [hil] at h1;rw [← hn] at d3;obtain ⟨P,hP⟩:∃ P,P=wd * n:=⟨_,rfl⟩;rw [← hP] at d3;have hmul:(wd:Int) * (n:Int)=(P:Int):=by rw [hP];exact (Int.natCast_mul wd n).symm
 have hw1:IntKind.i64.wrap ((wd:Int) * (n:Int))=(P:Int):=by rw [hmul,IntKind.wrap_i64];omega
 have hw2:IntKind.i64.wrap ((P:Int)+7)=((P+7:Nat):Int):=by rw [IntKind.wrap_i64];omega
 obtain ⟨m,hm⟩:∃ m,m=(P+7) / 8:=⟨_,rfl⟩;have hw3:Int.tdiv ((P:Int)+7) 8=(m:Int):=by rw [Int.tdiv_eq_ediv_of_nonneg (by omega)];omega
 have hwm:IntKind.i64.wrap (m:Int)=(m:Int):=by rw [IntKind.wrap_i64];omega
 have hmb:m≤3000000:=by omega
 have hmk:=run_make_list (P:=Tryz.prog) 41 5 i0 (.int .u8 0) Tryz.underlying41 hi hz0 hz1 rfl .i64 .i64 m (by rw [hz2];omega) (by omega);have hnb:n≤16777216:=Nat.le_trans (Nat.le_mul_of_pos_left _ d1) (by rw [← hP];exact d3);have c0:w.cell? ⟨p,0,none⟩=some (.int .i64 (wd:Int)):=by rw [h1.cell];rfl
 have c1:w.cell? ⟨p,1,none⟩=some (.slice A n c):=by rw [h1.cell];rfl
 have HR:=Lib.hid h1;clear h1;have HX:=Lib.hid h2;clear h2;have HL:=Lib.hid hl;clear hl;have HM:=Lib.hid (show m=(wd * ls.length+7) / 8 by rw [hm,hP,hn]);have HPM:=Lib.hid (show P≤8 * m∧P=wd * n by exact ⟨by omega,hP⟩);have HN:=Lib.hid hn;clear hmul hm hP hn hil hi hz0 hz1 hz2 he
 go_enter Tryz.func47,Tryz.ntmps47
 go_wp2_with fail
 have HG0:=Lib.hid (show Blk ((w.alloc (.cells (Array.replicate m (.int .u8 0)) 5)).drew) w.heap.size 5 ((bytesN (packN wd ls % 2 ^ (wd * 0)) m).map (.int .u8)) by
  rw [Nat.mul_zero,Nat.pow_zero,Nat.mod_one,bytesN_zero];have h2:Blk (w.alloc (.cells (Array.replicate m (.int .u8 0)) 5)) w.heap.size 5 ((List.replicate m (0:Int)).map (.int .u8)):=by simpa using Blk.new w 5 (List.replicate m (.int .u8 0))
  exact h2.drew)
 go_region
 go_wp2_with fail
 go_loopw [4] (fun x wr=>∃ i:Nat,x=.int .i64 (i:Int)∧i≤n∧Hid (Blk wr w.heap.size 5 ((bytesN (packN wd ls % 2 ^ (wd * i)) m).map (.int .u8)))∧Hid (Kp [] w wr)) (fun x _=>n - (intOf x).toNat)
 case atStart=>exact ⟨0,rfl,by omega,HG0,Lib.hid (((Kp.refl [] w).alloc _).drew)⟩
 case round =>
  clear HG0 c0 c1;obtain ⟨i,rfl,hin,HB,HK⟩:=hrel;have c0:wr.cell? ⟨p,0,none⟩=some (.int .i64 (wd:Int)):=by rw [(HR.out.kp0 HK.out).cell];rfl
  have c1:wr.cell? ⟨p,1,none⟩=some (.slice A n c):=by rw [(HR.out.kp0 HK.out).cell];rfl
  by_cases hlt:i < n
  ·obtain ⟨x,hx⟩:∃ x,ls[i]? = some x:=⟨_,List.getElem?_eq_getElem (by rw [← HN.out];exact hlt)⟩;obtain ⟨ad,rfl,_,cx⟩:=(HX.out.kp0 HK.out).at_ (i:=i) (u:=.int .i64 (x:Int)) (by simp [intsN,hx]);have hxb:x < 2 ^ 60:=Nat.lt_of_lt_of_le (HL.out x (List.mem_of_getElem? hx)) (Nat.pow_le_pow_right (by omega) d2);have HXK:=Lib.hid hx;clear hx;go_wp2_with fail
   go_loopw [5,6] (fun y z wr=>∃ k v:Nat,z=.int .i64 (k:Int)∧y=.int .i64 (v:Int)∧k≤wd∧v < 2 ^ 60∧Hid (v=x / 2 ^ k)∧Hid (Blk wr w.heap.size 5 ((bytesN (packN wd ls % 2 ^ (wd * i+k)) m).map (.int .u8)))∧Hid (Kp [] w wr)) (fun _ z _=>wd - (intOf z).toNat)
   case atStart=>exact ⟨0,x,rfl,rfl,by omega,hxb,Lib.hid (by simp),HB,HK⟩
   case round =>
    clear HB HK c0 c1 cx;obtain ⟨k,v,rfl,rfl,hkw,hvb,HV,HB,HK⟩:=hrel;have c0:wr.cell? ⟨p,0,none⟩=some (.int .i64 (wd:Int)):=by rw [(HR.out.kp0 HK.out).cell];rfl
    by_cases hkl:k < wd
    ·obtain ⟨T,hT⟩:∃ T,T=wd * i:=⟨_,rfl⟩;have hiw:wd * (i+1)≤wd * n:=Nat.mul_le_mul_left _ hlt;rw [Nat.mul_add,Nat.mul_one,← hT,← HPM.out.2] at hiw;have hmul:(wd:Int) * (i:Int)=(T:Int):=by rw [hT];exact (Int.natCast_mul wd i).symm
     have hwT:IntKind.i64.wrap ((wd:Int) * (i:Int))=(T:Int):=by rw [hmul,IntKind.wrap_i64];omega
     obtain ⟨a,ha⟩:∃ a,a=T+k:=⟨_,rfl⟩;have hwa:IntKind.i64.wrap ((T:Int)+(k:Int))=(a:Int):=by rw [IntKind.wrap_i64];omega
     obtain ⟨q,hq⟩:∃ q,q=a / 8:=⟨_,rfl⟩;obtain ⟨r,hr⟩:∃ r,r=a % 8:=⟨_,rfl⟩;have hqm:q < m:=by have:=HPM.out.1;omega
     have hdiv:(a:Int).tdiv 8=(q:Int):=by rw [Int.tdiv_eq_ediv_of_nonneg (by omega)];omega
     have hmod:(a:Int).tmod 8=(r:Int):=by rw [Int.tmod_eq_emod_of_nonneg (by omega)];omega
     have hwq:IntKind.i64.wrap (q:Int)=(q:Int):=by rw [IntKind.wrap_i64];omega
     have hwr:IntKind.i64.wrap (r:Int)=(r:Int):=by rw [IntKind.wrap_i64];omega
     have hr8:r < 8:=by omega
     obtain ⟨bt,hbt⟩:∃ bt,bt=v % 2:=⟨_,rfl⟩;have hbm:(v:Int).tmod 2=(bt:Int):=by rw [Int.tmod_eq_emod_of_nonneg (by omega)];omega
     have hu8:∀ z:Nat,z < 256→IntKind.u8.wrap (z:Int)=(z:Int):=fun z hz=>by
      have:IntKind.u8.wrap (z:Int)=(z:Int) % 256:=by simp [IntKind.wrap,IntKind.signed,IntKind.bits]
      rw [this];omega
     have hwb:IntKind.u8.wrap (bt:Int)=(bt:Int):=hu8 bt (by omega);have hwb2:IntKind.i64.wrap (bt:Int)=(bt:Int):=by rw [IntKind.wrap_i64];omega
     obtain ⟨sh,hsh⟩:∃ sh,sh=bt * 2 ^ r:=⟨_,rfl⟩;have hp7:2 ^ r≤2 ^ 7:=Nat.pow_le_pow_right (by omega) (by omega);have hb1:bt * 2 ^ r≤1 * 2 ^ r:=Nat.mul_le_mul_right _ (by omega)
     have hws:IntKind.u8.wrap ((bt:Int) * 2 ^ r)=(sh:Int):=by
      rw [show (bt:Int) * 2 ^ r=((bt * 2 ^ r:Nat):Int) from by simp,← hsh];exact hu8 sh (by omega)
     have hws':IntKind.u8.wrap ((bt:Int) * 2 ^ min r 8)=(sh:Int):=by rw [show min r 8=r from by omega];exact hws
     obtain ⟨N,hN⟩:∃ N,N=packN wd ls:=⟨_,rfl⟩;rw [← hN,← hT,← ha] at HB;obtain ⟨old,hold⟩:∃ old,old=N % 2 ^ a / 2 ^ (8 * q) % 256:=⟨_,rfl⟩
     have cq:wr.cell? ⟨w.heap.size,q,none⟩=some (.int .u8 (old:Int)):=by
      rw [HB.out.cell,List.getElem?_map,bytesN_get _ hqm,← hold];rfl
     have cf:=HB.out.free q;have hbit:N / 2 ^ a % 2=bt:=by rw [hbt,HV.out,hN,ha,hT];exact bit_at HL.out HXK.out hkl
     have hstep:=bytesN_step (N:=N) (a:=a) (m:=m) (by rw [← hq];exact hqm);rw [← hq,← hr,← hold,hbit,← hsh] at hstep
     have hnew:old+sh < 256:=by
      have h1:N % 2 ^ a / 2 ^ (8 * q) < 2 ^ r:=by
       rw [Nat.div_lt_iff_lt_mul (Nat.two_pow_pos _),← Nat.pow_add,show r+8 * q=a from by omega];exact Nat.mod_lt _ (Nat.two_pow_pos _)
      have h2:old≤N % 2 ^ a / 2 ^ (8 * q):=by rw [hold];exact Nat.mod_le _ _
      omega
     have hwn:IntKind.u8.wrap ((old:Int)+(sh:Int))=((old+sh:Nat):Int):=hu8 (old+sh) hnew;obtain ⟨v2,hv2⟩:∃ v2,v2=v / 2:=⟨_,rfl⟩;have hdv:(v:Int).tdiv 2=(v2:Int):=by rw [Int.tdiv_eq_ediv_of_nonneg (by omega)];omega
     have hwv:IntKind.i64.wrap (v2:Int)=(v2:Int):=by rw [IntKind.wrap_i64];omega
     have HV2:=Lib.hid (show v2=x / 2 ^ (k+1) by rw [hv2,HV.out,Nat.div_div_eq_div_mul,← Nat.pow_succ]);have hv2b:v2 < 2 ^ 60:=by omega
     have HST:=Lib.hid hstep;have HAK:=Lib.hid (show a+1=wd * i+(k+1) by omega);have HNN:=Lib.hid hN;clear hT hiw hmul ha hq hr hbt hu8 hsh hp7 hb1 hN hold hbit hstep hnew hv2;go_wp2_with fail
     go_region
     go_wp2_with fail;have h:=(HB.out.set_ q (.int .u8 ((old+sh:Nat):Int))).drew;rw [← List.map_set,HST.out,HAK.out,HNN.out,Int.natCast_add] at h;exact ⟨⟨k+1,v2,by go_num,rfl,by omega,hv2b,HV2,Lib.hid h,Lib.hid ((HK.out.setCell (.inr (Nat.le_refl _)) _).drew)⟩,by simp [intOf];omega⟩
    ·obtain rfl:wd=k:=by omega
     have HB2:=Lib.hid (show Blk wr w.heap.size 5 ((bytesN (packN wd ls % 2 ^ (wd * (i+1))) m).map (.int .u8)) by rw [Nat.mul_add,Nat.mul_one];exact HB.out);go_wp2_with fail;exact ⟨⟨i+1,by go_num,by omega,HB2,HK⟩,by simp [intOf];omega⟩
  ·obtain rfl:n=i:=by omega
   have hN:packN wd ls % 2 ^ (wd * n)=packN wd ls:=Nat.mod_eq_of_lt (by rw [HN.out];exact packN_lt HL.out);have HB2:=Lib.hid (show Blk wr w.heap.size 5 ((bytesN (packN wd ls) m).map (.int .u8)) by have:=HB.out;rwa [hN] at this);clear hN;go_wp2_with fail;go_ret;exact ⟨w.heap.size,m,HM.out,rfl,HB2.out,Nat.le_refl _,HK.out⟩
end Go.Proofs.YtanacapkfllbnaaGreatDoor.PK
