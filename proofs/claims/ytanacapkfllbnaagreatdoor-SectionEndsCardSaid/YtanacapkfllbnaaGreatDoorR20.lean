/-
  LAYER 1: slices.ContainsFunc over a predicate that changes nothing; Set's predicate.
  LAYER 1: Set.
  LAYER 1: Set, walked.
  CONDITIONS: as each lemma says.
-/
import Derived.Test.YtanacapkfllbnaaGreatDoorR19
import Derived.Test.YtanacapkfllbnaaGreatDoorR10
set_option maxRecDepth 100000
set_option maxHeartbeats 4000000
namespace Go.Proofs.YtanacapkfllbnaaGreatDoor
open Go.RowKit

set_option maxHeartbeats 2000000 in
theorem index_any (g n c B:Nat) (A:Option Addr) (lb:Array Value) (p:Int→Bool) (l:List Int) (w:World) (hx:Rd w B A (l.map (.int .i64))) (hn:l.length=n) (hb:n≤1000000000) (eg:∀ args w,(callFunc g args).run Tryz.prog w=.ok (.enter g args) w)
  (hf:∀ x ∈ l,Calls Tryz.prog g (#[.int .i64 x] ++ lb) w fun e w'=>e=.returned (.bool (p x))∧w=w') :
  Calls Tryz.prog 156 #[.slice A n c,.func (.func g) #[] lb] w fun e w'=>∃ k:Int,e=.returned (.int .i64 k)∧(decide (0≤k)=l.any p)∧w=w':=by
 have HX:=Lib.hid hx;clear hx;have HN:=Lib.hid hn;clear hn;have HF:=Lib.hid hf;clear hf
 go_enter Tryz.func156,Tryz.ntmps156
 go_wp2_with fail
 go_loopw [8] (fun x wr=>∃ k:Nat,x=.int .i64 (k:Int)∧k≤n∧Hid (∀ y ∈ l.take k,p y=false)∧w=wr) (fun x _=>n - (intOf x).toNat)
 case atStart=>exact ⟨0,rfl,by omega,Lib.hid (fun y hy=>by simp at hy),rfl⟩
 case round =>
  obtain ⟨k,rfl,hk,HNO,rfl⟩:=hrel;by_cases hlt:k < n
  ·obtain ⟨x,ad,hxk,rfl,_,hcx⟩:=HX.out.ix (i:=k) (by rw [HN.out];exact hlt);have hc:=HF.out x (List.mem_of_getElem? hxk)
   cases hp:p x <;> rw [hp] at hc
   ·have HNO2:=Lib.hid (show ∀ y ∈ l.take (k+1),p y=false from fun y hy=>by
     rw [take_succ_of hxk] at hy;rcases List.mem_append.1 hy with h | h
     ·exact HNO.out y h
     ·obtain rfl:y=x:=by simpa using h
      exact hp)
    clear hp hxk HNO;go_wp2_with fail;refine hc.mono ?_;rintro e w' ⟨rfl,rfl⟩;go_wp2_with fail;exact ⟨⟨k+1,by go_num,by omega,HNO2,trivial⟩,by simp [intOf];omega⟩
   ·have HAN:=Lib.hid (show l.any p=true from List.any_eq_true.2 ⟨x,List.mem_of_getElem? hxk,hp⟩);clear hp hxk HNO;go_wp2_with fail;refine hc.mono ?_;rintro e w' ⟨rfl,rfl⟩;go_wp2_with fail;go_ret;exact ⟨_,rfl,by rw [HAN.out];simp,rfl⟩
  ·obtain rfl:n=k:=by omega
   have HAN:=Lib.hid (show l.any p=false from by
    rw [List.any_eq_false];intro y hy;have:=HNO.out y (by rw [List.take_of_length_le (by rw [HN.out];exact Nat.le_refl _)];exact hy)
    simp [this])
   go_wp2_with fail;go_ret;exact ⟨-1,rfl,by rw [HAN.out];rfl,rfl⟩
theorem contains_any (g n c B:Nat) (A:Option Addr) (lb:Array Value) (p:Int→Bool) (l:List Int) (w:World) (hx:Rd w B A (l.map (.int .i64))) (hn:l.length=n) (hb:n≤1000000000) (eg:∀ args w,(callFunc g args).run Tryz.prog w=.ok (.enter g args) w)
  (hf:∀ x ∈ l,Calls Tryz.prog g (#[.int .i64 x] ++ lb) w fun e w'=>e=.returned (.bool (p x))∧w=w') :
  Calls Tryz.prog 127 #[.slice A n c,.func (.func g) #[] lb] w fun e w'=>e=.returned (.bool (l.any p))∧w=w':=by
 have HX:=Lib.hid hx;clear hx;have HN:=Lib.hid hn;clear hn;have HF:=Lib.hid hf;clear hf;have HE:=Lib.hid eg;clear eg;obtain ⟨q,hq⟩:∃ q,q=l.any p:=⟨_,rfl⟩;rw [← hq];have HQ:=Lib.hid hq;clear hq
 go_enter Tryz.func127,Tryz.ntmps127
 go_wp2_with fail;refine (index_any g n c B A lb p l w HX.out HN.out hb HE.out HF.out).mono ?_;rw [← HQ.out];rintro e w' ⟨k,rfl,hk,rfl⟩
 cases q with
 | true =>
   have h0:0≤k:=by simpa using hk
   go_wp2_with fail;go_ret;exact ⟨rfl,rfl⟩
 | false =>
   have h0:k < 0:=by simpa using hk
   go_wp2_with fail;go_ret;exact ⟨rfl,rfl⟩
theorem setc_any (S:List Nat) (p n b1:Nat) (i:Int) (bs:List Bool) (c:Bool) (w:World) (h:VecM w S p bs c) (hn:bs.length=n) (hb:w.cell? ⟨b1,0,none⟩=some (.pointer (some ⟨p,0,none⟩))) :
  Calls Tryz.prog 128 (#[.int .i64 i] ++ #[.pointer (some ⟨b1,0,none⟩)]) w fun e w'=>e=.returned (.bool (!decide (0≤i∧i < (n:Int))))∧w=w':=by
 have HV:=Lib.hid h;clear h;have HN:=Lib.hid hn;clear hn;obtain ⟨q,hq⟩:∃ q,q=decide (0≤i∧i < (n:Int)):=⟨_,rfl⟩;rw [← hq];have HQ:=Lib.hid hq;clear hq
 show Calls Tryz.prog 128 #[.int .i64 i,.pointer (some ⟨b1,0,none⟩)] w _
 go_enter Tryz.func128,Tryz.ntmps128
 go_wp2_with fail;refine (vis_any S p n i bs c w HV.out HN.out).mono ?_;rw [← HQ.out];rintro e w' ⟨rfl,rfl⟩;go_wp2_with fail;go_ret;exact ⟨rfl,rfl⟩
def VecW (w:World) (S:List Nat) (p:Nat) (bs:List Bool) (c:Bool):Prop:=
 ∃ (g:Nat) (ws:List Nat) (A:Option Addr) (na ca:Nat) (av:List Int),
  Blk w p 190 [.slice (some ⟨g,0,none⟩) ws.length ws.length,.slice A na ca,.bool c,.int .i64 (bs.length:Int),.bool true] ∧
  Blk w g 149 (wordsV ws)∧(∀ x ∈ ws,x < 2 ^ 64)∧ws.length=(bs.length+63) / 64∧num ws=bitN bs∧bs.length≤16777216 ∧
  w.ownsRow 0 3 1 (.slice A na ca) na (av.map (.int .i64))∧S=p :: g :: ownL (.slice A na ca)
theorem VecM.w {w:World} {S:List Nat} {p:Nat} {bs:List Bool} {c:Bool} (h:VecM w S p bs c):VecW w S p bs c:=by
 obtain ⟨g,ws,A,na,ca,av,h1,h2,h3,h4,h5,h6,h7,_,h9⟩:=h;exact ⟨g,ws,A,na,ca,av,h1,h2,h3,h4,h5,h6,h7,h9⟩
theorem VecW.kp0 {w w':World} {S:List Nat} {p:Nat} {bs:List Bool} {c:Bool} (h:VecW w S p bs c) (hk:Kp [] w w'):VecW w' S p bs c:=by
 obtain ⟨g,ws,A,na,ca,av,h1,h2,h3,h4,h5,h6,h7,h9⟩:=h;exact ⟨g,ws,A,na,ca,av,h1.kp0 hk,h2.kp0 hk,h3,h4,h5,h6,own_kp0 h7 hk,h9⟩
theorem VecW.put {w:World} {S:List Nat} {p:Nat} {bs:List Bool} {c:Bool} (h:VecW w S p bs c) {k:Nat} (hk:k < bs.length):∃ (g m x:Nat),g ∈ S∧w.cell? ⟨p,0,none⟩=some (.slice (some ⟨g,0,none⟩) m m)∧k / 64 < m∧m≤1000000 ∧
  w.cell? ⟨g,k / 64,none⟩=some (.int .u64 (x:Int))∧w.frozen? ⟨g,k / 64,none⟩=false∧x < 2 ^ 64∧(∀ Z v,Z=bitN ((padL bs (k / 64)).set (k % 64) v)→VecW (w.setCell ⟨g,k / 64,none⟩ (.int .u64 (Z:Int))) S p (bs.set k v) c) ∧
  x ||| 2 ^ (k % 64)=bitN ((padL bs (k / 64)).set (k % 64) true)∧x &&& (2 ^ 64 - 1 - 2 ^ (k % 64))=bitN ((padL bs (k / 64)).set (k % 64) false):=by
 obtain ⟨g,ws,A,na,ca,av,h1,h2,h3,h4,h5,h6,h7,hS⟩:=h;have hpg:p ≠ g:=h1.ne h2 (by decide);have hqm:k / 64 < ws.length:=by rw [h4];omega
 obtain ⟨x,hx⟩:∃ x,ws[k / 64]? = some x:=⟨_,List.getElem?_eq_getElem hqm⟩;refine ⟨g,ws.length,x,by rw [hS];simp,by rw [h1.cell];rfl,hqm,by rw [h4];omega,by rw [h2.cell];exact wordsV_get hx,h2.free _,h3 x (List.mem_of_getElem? hx),fun Z v hZ=>?_,or_put h3 h5 hx,clear_put h3 h5 hx⟩;refine ⟨g,ws.set (k / 64) Z,A,na,ca,av,?_,?_,?_,?_,?_,?_,?_,hS⟩
 ·rw [List.length_set,List.length_set];exact h1.far (p:=⟨g,k / 64,none⟩) hpg _
 ·rw [← wordsV_set];exact h2.set_ _ _
 ·exact set_lt h3 (by rw [hZ];exact put_lt _ _ _ _)
 ·rw [List.length_set,List.length_set,h4]
 ·rw [hZ];exact num_put h3 h5 hk hx v
 ·rw [List.length_set];exact h6
 ·refine own_kp h7 ((Kp.refl [g] w).setCell (p:=⟨g,k / 64,none⟩) (.inl (by simp)) _) (fun b hb hm=>?_);simp only [List.mem_singleton] at hm
  subst hm;obtain ⟨l,hB⟩:=own_blk_some h7 hb;exact absurd rfl (hB.ne h2 (by decide))
theorem VecW.fin {w:World} {S:List Nat} {p:Nat} {bs:List Bool} {c:Bool} (h:VecW w S p bs c):VecM (w.setCell ⟨p,2,none⟩ (.bool false)) S p bs false:=by
 obtain ⟨g,ws,A,na,ca,av,h1,h2,h3,h4,h5,h6,h7,hS⟩:=h;have hpg:p ≠ g:=h1.ne h2 (by decide);refine ⟨g,ws,A,na,ca,av,h1.set_ 2 (.bool false),h2.far (p:=⟨p,2,none⟩) (Ne.symm hpg) _,h3,h4,h5,h6,?_,(fun h=>by cases h),hS⟩;refine own_kp h7 ((Kp.refl [p] w).setCell (p:=⟨p,2,none⟩) (.inl (by simp)) _) (fun b hb hm=>?_);simp only [List.mem_singleton] at hm
 subst hm;obtain ⟨l,hB⟩:=own_blk_some h7 hb;exact absurd rfl (hB.ne h1 (by decide))
theorem VecW.fin_ask {w:World} {S:List Nat} {p:Nat} {bs:List Bool} {c:Bool} (h:VecW w S p bs c):p ∈ S∧w.cell? ⟨p,2,none⟩=some (.bool c)∧w.frozen? ⟨p,2,none⟩=false:=by
 obtain ⟨g,ws,A,na,ca,av,h1,h2,h3,h4,h5,h6,h7,hS⟩:=h;exact ⟨by rw [hS];simp,by rw [h1.cell];rfl,h1.free 2⟩
def setL (bs:List Bool) (one:Bool) (l:List Int):List Bool:=l.foldl (fun b i=>b.set i.toNat one) bs
theorem setL_len (one:Bool):∀ (l:List Int) (bs:List Bool),(setL bs one l).length=bs.length
 | [],_=>rfl
 | x :: l,bs=>by
   show (setL (bs.set x.toNat one) one l).length=_
   rw [setL_len one l,List.length_set]
theorem setL_snoc (bs:List Bool) (one:Bool) (l:List Int) (x:Int):setL bs one (l ++ [x])=(setL bs one l).set x.toNat one:=by
 unfold setL;rw [List.foldl_append];rfl
theorem u64_andNot_ (a b:Nat) (ha:a < 2 ^ 64) (hb:b < 2 ^ 64):bits .andNot .u64 (a:Int) (b:Int)=((a &&& (2 ^ 64 - 1 - b):Nat):Int):=u64_andNot_nat a b (by omega) (by omega)
def badL (n:Nat) (l:List Int):Bool:=l.any fun x=>!decide (0≤x∧x < (n:Int))
theorem badL_in {n:Nat} {l:List Int} (h:badL n l=false):∀ x ∈ l,0≤x∧x < (n:Int):=by
 intro x hx;have:=(List.any_eq_false.1 h) x hx;simpa using this

theorem vset_any (S:List Nat) (p n m c B:Nat) (one:Bool) (A:Option Addr) (l:List Int) (bs:List Bool) (cf:Bool) (w:World) (h:VecM w S p bs cf) (hn:bs.length=n) (hx:Rd w B A (l.map (.int .i64))) (hl:l.length=m) (hm:m≤1000000000) (hA:∀ ad,A=some ad→ad.block ∉ S) :
  Calls Tryz.prog 71 #[.pointer (some ⟨p,0,none⟩),.bool one,.slice A m c] w fun e w'=>(badL n l=true∧e=.returned (.int .i64 6)∧Kp [] w w') ∨ (badL n l=false∧e=.returned (.int .i64 0)∧VecM w' S p (setL bs one l) false∧Kp S w w'):=by
 have HX:=Lib.hid hx;have HL:=Lib.hid hl;have HV:=Lib.hid h;have HN:=Lib.hid hn;have HAS:=Lib.hid hA;clear hx hl hn hA h;obtain ⟨q,hq⟩:∃ q,q=badL n l:=⟨_,rfl⟩;have HQ:=Lib.hid hq;clear hq
 go_enter Tryz.func71,Tryz.ntmps71
 go_wp2_with fail;obtain ⟨w1,hw1⟩:∃ w1,w1=w.alloc (.cells #[.pointer (some ⟨p,0,none⟩)] 112):=⟨_,rfl⟩;obtain ⟨b1,hb1⟩:∃ b1,b1=w.heap.size:=⟨_,rfl⟩;have HK1:=Lib.hid (show Kp [] w w1 by rw [hw1];exact (Kp.refl [] w).alloc _);have HBS:=Lib.hid (show b1 ∉ S from fun hm=>by have:=HV.out.lt _ hm;omega)
 have c1:w1.cell? ⟨b1,0,none⟩=some (.pointer (some ⟨p,0,none⟩)):=by
  rw [hw1,hb1];exact (Blk.new w 112 [.pointer (some ⟨p,0,none⟩)]).cell 0
 rw [← hw1,← hb1];have HV1:=Lib.hid (HV.out.kp0 HK1.out);clear hw1 hb1;go_wp2_with fail;refine (vthere_any S p bs cf w1 HV1.out).mono ?_;rintro e w2 ⟨rfl,rfl⟩;go_wp2_with fail;refine (contains_any 128 m c B A _ (fun x=>!decide (0≤x∧x < (n:Int))) l w1 (HX.out.kp0 HK1.out) HL.out hm (enters_fn Tryz.func128 (by kernel_rfl) rfl) (fun x _=>setc_any S p n b1 x bs cf w1 HV1.out HN.out c1)).mono ?_;rw [show (l.any fun x=>!decide (0≤x∧x < (n:Int)))=q from HQ.out.symm];rintro e w2 ⟨rfl,rfl⟩
 cases q with
 | true =>
   go_wp2_with fail;go_ret;exact .inl ⟨HQ.out.symm,rfl,HK1.out⟩
 | false =>
   have HIN:=Lib.hid (badL_in HQ.out.symm);go_wp2_with fail
   go_loopw [17] (fun x wr=>∃ k:Nat,x=.int .i64 (k:Int)∧k≤m∧Hid (VecW wr S p (setL bs one (l.take k)) cf)∧Hid (Kp S w1 wr)) (fun x _=>m - (intOf x).toNat)
   case atStart=>exact ⟨0,rfl,by omega,Lib.hid HV1.out.w,Lib.hid (Kp.refl S w1)⟩
   case round =>
    have C1:=Lib.hid c1;clear c1;obtain ⟨k,rfl,hk,HW,HK⟩:=hrel;have c1:=HK.out.cell C1.out HBS.out;by_cases hlt:k < m
    ·obtain ⟨x,ad,hxk,rfl,_,hcx⟩:=((HX.out.kp0 HK1.out).kp_ne HK.out HAS.out).ix (i:=k) (by rw [HL.out];exact hlt);have hxi:=HIN.out x (List.mem_of_getElem? hxk);obtain ⟨I,rfl⟩:∃ I:Nat,x=(I:Int):=⟨x.toNat,by omega⟩;have hlen:(setL bs one (l.take k)).length=n:=by rw [setL_len,HN.out]
     have HST:=Lib.hid (show setL bs one (l.take (k+1))=(setL bs one (l.take k)).set I one by rw [take_succ_of hxk,setL_snoc,Int.toNat_natCast]);have hIn:I < (setL bs one (l.take k)).length:=by rw [hlen];omega
     have hI16:I≤16777216:=by
      obtain ⟨_,_,_,_,_,_,_,_,_,_,_,h6,_⟩:=HW.out;omega
     have hIn2:I < ((setL bs one (l.take k)).set I false).length:=by rw [List.length_set];exact hIn
     have HI2:=Lib.hid hIn2;obtain ⟨g,M,y,hgS,c0,hqM,hMb,cy,cf1,hyb,hput,_,hclr⟩:=HW.out.put hIn;have hWn:=hput _ false hclr;obtain ⟨q,hq⟩:∃ q,q=I / 64:=⟨_,rfl⟩;obtain ⟨r,hr⟩:∃ r,r=I % 64:=⟨_,rfl⟩;have hr64:r < 64:=by omega
     obtain ⟨T,hT⟩:∃ T,T=2 ^ r:=⟨_,rfl⟩;have hTb:T < 2 ^ 64:=by rw [hT];exact Nat.pow_lt_pow_right (by decide) hr64
     obtain ⟨Z,hZ⟩:∃ Z,Z=y &&& (2 ^ 64 - 1 - T):=⟨_,rfl⟩;have hand:bits .andNot .u64 (y:Int) (T:Int)=(Z:Int):=by rw [hZ];exact u64_andNot_ y T hyb hTb
     rw [← hq,← hr,← hT,← hZ] at hWn;rw [← hq] at cy cf1 hqM;have HQR:=Lib.hid (show q=I / 64∧r=I % 64∧T=2 ^ r from ⟨hq,hr,hT⟩);have HWn:=Lib.hid hWn;have HGS:=Lib.hid hgS;have hdiv:(I:Int).tdiv 64=(q:Int):=by rw [Int.tdiv_eq_ediv_of_nonneg (by omega)];omega
     have hmod:(I:Int).tmod 64=(r:Int):=by rw [Int.tmod_eq_emod_of_nonneg (by omega)];omega
     have hwq:IntKind.i64.wrap (q:Int)=(q:Int):=by rw [IntKind.wrap_i64];omega
     have hwr:IntKind.i64.wrap (r:Int)=(r:Int):=by rw [IntKind.wrap_i64];omega
     have hsh:IntKind.u64.wrap (1 * 2 ^ min r 64)=(T:Int):=by
      have e:(1:Int) * 2 ^ min r 64=((2 ^ r:Nat):Int):=by rw [show min r 64=r from by omega];simp
      rw [e,← hT,u64_wrap_nat,Nat.mod_eq_of_lt hTb]
     have hsh':IntKind.u64.wrap (2 ^ min r 64)=(T:Int):=by rw [Int.one_mul] at hsh;exact hsh
     have hsh2:IntKind.u64.wrap (2 ^ r)=(T:Int):=by rw [show min r 64=r from by omega] at hsh';exact hsh'
     have hqi:(q:Int) < (M:Int):=by omega
     have hI0:(0:Int)≤(I:Int):=by omega
     clear hxk hxi hlen hIn hIn2 hput hclr hWn hq hr hT hZ hgS HW;go_wp2_with fail
     go_region
     obtain ⟨w3,hw3⟩:∃ w3,w3=(wr.setCell ⟨g,q,none⟩ (.int .u64 (Z:Int))).drew:=⟨_,rfl⟩;rw [← hw3];have HK3:=Lib.hid (show Kp S w1 w3 by rw [hw3];exact (HK.out.setCell (.inl HGS.out) _).drew);have HW3:=Lib.hid (show VecW w3 S p ((setL bs one (l.take k)).set I false) cf by rw [hw3];exact HWn.out.kp0 (Kp.refl [] _).drew);clear hw3 c0 cy cf1 hcx c1 HK hand hyb;have c1:=HK3.out.cell C1.out HBS.out
     cases one with
     | false =>
       have HW4:=Lib.hid (show VecW w3 S p (setL bs false (l.take (k+1))) cf by rw [HST.out];exact HW3.out);go_wp2_with fail;exact ⟨⟨k+1,by go_num,by omega,HW4,HK3⟩,by simp [intOf];omega⟩
     | true =>
       obtain ⟨g2,M2,y2,hgS2,c02,hqM2,hMb2,cy2,cf2,hyb2,hput2,hor2,_⟩:=HW3.out.put HI2.out;have hWn2:=hput2 _ true hor2;obtain ⟨Z2,hZ2⟩:∃ Z2,Z2=y2 ||| T:=⟨_,rfl⟩;have hor:bits .or .u64 (y2:Int) (T:Int)=(Z2:Int):=by rw [hZ2];exact u64_or_nat y2 T (by omega) (by omega)
       rw [List.set_set,← HQR.out.1,← HQR.out.2.1,← HQR.out.2.2,← hZ2,show (setL bs true (l.take k)).set I true=setL bs true (l.take (k+1)) from HST.out.symm] at hWn2;rw [← HQR.out.1] at cy2 cf2 hqM2;have HWn2:=Lib.hid hWn2;have HGS2:=Lib.hid hgS2;have hqi2:(q:Int) < (M2:Int):=by omega
       clear hput2 hor2 hWn2 hgS2 hZ2 HW3 hyb2;go_wp2_with fail
       go_region
       go_wp2_with fail;exact ⟨⟨k+1,by go_num,by omega,Lib.hid (HWn2.out.kp0 (Kp.refl [] _).drew),Lib.hid ((HK3.out.setCell (.inl HGS2.out) _).drew)⟩,by simp [intOf];omega⟩
    ·obtain rfl:m=k:=by omega
     have HW2:=Lib.hid (show VecW wr S p (setL bs one l) cf by
      have h:=HW.out
      rwa [List.take_of_length_le (by rw [HL.out];exact Nat.le_refl _)] at h)
     obtain ⟨hpS,c2,cf2⟩:=HW2.out.fin_ask;have HPS:=Lib.hid hpS;clear hpS HW;go_wp2_with fail;go_ret;exact .inr ⟨HQ.out.symm,rfl,HW2.out.fin,(HK1.out.mono (by simp)).trans (HK.out.setCell (.inl HPS.out) _)⟩
end Go.Proofs.YtanacapkfllbnaaGreatDoor
