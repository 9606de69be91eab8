/-
  THE CONTRACTS OF LAYER 5's REFERENCE, third part: ossuaryref05.Fits.
  THE CONTRACTS OF LAYER 5, eighth part: Cost, the program's and the reference's.
  PLAIN MATHEMATICS OF LAYER 5, third part: no tree costs less than the best one; turned round, the best costs as much; lengths that fit fill a row of all ways.
  PLAIN MATHEMATICS OF LAYER 6, second part: rows of bits stand as texts do; how many bits texts have by a code.
  PLAIN MATHEMATICS OF LAYER 6, third part: which signs and lengths make a code; its words, one by one.
  CONDITIONS: as each lemma says.
-/
import Derived.Test.YtanacapkfllbnaaGreatDoorR15
import Derived.Test.YtanacapkfllbnaaGreatDoorR00
import Derived.Deep.RegionLaw
set_option maxRecDepth 100000
set_option maxHeartbeats 4000000
namespace Go.Proofs.YtanacapkfllbnaaGreatDoor
open Go.RowKit

theorem drop_of {α:Type} {v:List α} {b:Nat} {d:α} (h:v[b]? = some d):v.drop b=d :: v.drop (b+1):=by
 obtain ⟨hb,rfl⟩:=List.getElem?_eq_some_iff.1 h;exact List.drop_eq_getElem_cons hb
theorem split_at_ {α:Type} {v:List α} {b:Nat} {d:α} (h:v[b]? = some d):v=v.take b ++ d :: v.drop (b+1):=by
 rw [← drop_of h,List.take_append_drop]
def Deep (v:List Int) (b i:Nat) (d:Int):Prop:=v[b]? = some d∧(∀ q y,q < b→v[q]? = some y→y < d)∧∀ q y,q < i→v[q]? = some y→y≤d
theorem Deep.need {v:List Int} {b:Nat} {d:Int} (h:Deep v b v.length d) (h2:2≤v.length) (hD:Dl 0 v):1≤d∧v[b+1]? = some d∧Dl 0 (v.take b ++ (d - 1) :: v.drop (b+2)):=by
 obtain ⟨hb,hlt,hle⟩:=h;have hbd:=hD.bound d (List.mem_of_getElem? hb)
 obtain ⟨l3,e1,e2⟩:=hD.merge (split_at_ hb) h2 (fun x hx=>by
  obtain ⟨q,hq⟩:=List.getElem?_of_mem hx;rw [List.getElem?_take] at hq
  split at hq
  ·rename_i hqb
   exact hlt q x hqb hq
  ·cases hq) (fun x hx=>by
  obtain ⟨q,hq⟩:=List.getElem?_of_mem hx;rw [List.getElem?_drop] at hq
  exact hle _ x (List.getElem?_eq_some_iff.1 hq).1 hq)
 have e3:v[b+1]? = some d:=by
  have:=List.getElem?_drop (xs:=v) (i:=b+1) (j:=0);rw [e1] at this;simpa using this.symm
 refine ⟨by have:=hbd.2.2 (by omega);omega,e3,?_⟩;have e4:=drop_of e3;rw [e1] at e4;injection e4 with _ e4
 rw [show b+2=b+1+1 from rfl,← e4];exact e2
theorem Deep.back {v:List Int} {b:Nat} {d:Int} (hb:v[b]? = some d) (h1:v[b+1]? = some d) (hD:Dl 0 (v.take b ++ (d - 1) :: v.drop (b+2))):Dl 0 v:=by
 have:=hD.split rfl;rw [show d - 1+1=d from by omega] at this;rw [split_at_ hb,drop_of h1];exact this
theorem own_empty (w:World) {base:Nat} (h:base≤w.heap.size):(w.alloc (.cells #[] 3)).ownsRow base 3 1 (.slice (some ⟨w.heap.size,0,none⟩) 0 0) 0 []:=
 own_of_blk (xs:=[]) (rest:=[]) (Blk.new w 3 []) h (Nat.le_refl _) (Nat.zero_le _) rfl rfl
theorem Deep.one {v:List Int} (h:1≤v.length):∃ d,Deep v 0 1 d:=by
 obtain ⟨d,v',rfl⟩:=List.exists_cons_of_ne_nil (List.ne_nil_of_length_pos h)
 exact ⟨d,rfl,fun q y hq=>by omega,fun q y hq hy=>by
  obtain rfl:q=0:=by omega
  simp at hy
  omega⟩
theorem Deep.more {v:List Int} {b i:Nat} {d y:Int} (h:Deep v b i d) (hi:v[i]? = some y) (hy:¬ d < y):Deep v b (i+1) d:=
 ⟨h.1,h.2.1,fun q x hq hx=>by
  by_cases e:q=i
  ·subst e;rw [hi] at hx;injection hx with hx
   omega
  ·exact h.2.2 q x (by omega) hx⟩
theorem Deep.new {v:List Int} {b i:Nat} {d y:Int} (h:Deep v b i d) (hi:v[i]? = some y) (hy:d < y):Deep v i (i+1) y:=
 ⟨hi,fun q x hq hx=>by have:=h.2.2 q x hq hx;omega,fun q x hq hx=>by
  by_cases e:q=i
  ·subst e;rw [hi] at hx;injection hx with hx
   omega
  ·have:=h.2.2 q x (by omega) hx;omega⟩

theorem merged {v:List Int} {b:Nat} (e:Int) (hb:b < v.length):(v.set b e).take (b+1) ++ (v.set b e).drop (b+2)=v.take b ++ e :: v.drop (b+2):=by
 rw [List.set_eq_take_append_cons_drop,if_pos hb];have e1:(v.take b).length=b:=by rw [List.length_take];omega
 have t:(v.take b ++ e :: v.drop (b+1)).take (b+1)=v.take b ++ [e]:=by rw [List.take_append,List.take_of_length_le (by omega),e1,show b+1 - b=1 from by omega];rfl
 have d:(v.take b ++ e :: v.drop (b+1)).drop (b+2)=v.drop (b+2):=by rw [List.drop_append,List.drop_of_length_le (by omega),e1,show b+2 - b=2 from by omega];simp [List.drop_drop]
 rw [t,d,List.append_assoc];rfl
open Classical in
set_option maxHeartbeats 2000000 in
theorem rfits_any (A:Option Addr) (n c B:Nat) (l:List Int) (w:World) (hx:Rd w B A (l.map (.int .i64))) (hn:l.length=n) (hb:n≤1000000000) (hr:∀ x ∈ l,x≤9223372036854775807) :
  Calls Tryz.prog 140 #[.slice A n c] w fun e w'=>e=.returned (.bool (decide (okF l)))∧Kp [] w w':=by
 obtain ⟨i0,hi,hz0,hz1,hz2⟩:=info_parts Tryz.info_int;have HX:=Lib.hid hx;clear hx;have HN:=Lib.hid hn;clear hn;have HRG:=Lib.hid hr;clear hr;by_cases h0:n=0
 ·subst h0
  have hf:decide (okF l)=false:=by
   have:¬ okF l:=by
    rintro ⟨_,h | h⟩
    ·have:=HN.out;rw [h] at this;simp at this
    ·have:=HN.out;omega
   simp [this]
  have HF:=Lib.hid hf;clear hf
  go_enter Tryz.func140,Tryz.ntmps140
  go_wp2_with fail;go_ret;exact ⟨by rw [HF.out];rfl,Kp.refl [] w⟩
 by_cases h1:n=1
 ·subst h1;obtain ⟨x,ad,hxk,rfl,_,hcx⟩:=HX.out.ix (i:=0) (by have:=HN.out;omega);rw [addr_add_zero] at hcx
  have hlx:l=[x]:=by
   obtain ⟨y,rfl⟩:=List.length_eq_one_iff.1 HN.out
   simp at hxk
   rw [hxk]
  have hd:decide (okF l)=(x == 1):=by
   rw [hlx]
   have:okF [x] ↔ x=1:=by
    constructor
    ·rintro ⟨_,h | h⟩
     ·simpa using h
     ·simp at h
    ·rintro rfl;exact ⟨by simp,.inl rfl⟩
   by_cases e:x=1
   ·rw [decide_eq_true (this.2 e),e];rfl
   ·rw [decide_eq_false (fun h=>e (this.1 h))];simp [e]
  have HD:=Lib.hid hd;clear hd hlx hxk
  go_enter Tryz.func140,Tryz.ntmps140
  go_wp2_with fail;go_ret;exact ⟨by rw [HD.out];rfl,Kp.refl [] w⟩
 by_cases h2:257 < n
 ·have hf:decide (okF l)=false:=by
   have:¬ okF l:=by
    rintro ⟨h,_⟩;have:=HN.out;omega
   simp [this]
  have HF:=Lib.hid hf;clear hf;have hne:((n:Int) == 1)=false:=by simp;omega
  go_enter Tryz.func140,Tryz.ntmps140
  go_wp2_with fail;go_ret;exact ⟨by rw [HF.out];rfl,Kp.refl [] w⟩
 have hok:okF l ↔ Dl 0 l:=⟨fun h=>by
  rcases h.2 with e | e
  ·have:=HN.out;rw [e] at this;simp at this;omega
  ·exact e.2,fun h=>⟨by have:=HN.out;omega,.inr ⟨by have:=HN.out;omega,h⟩⟩⟩
 have HOK:=Lib.hid hok;clear hok;have hno:2≤n:=by omega
 have hne:((n:Int) == 1)=false:=by simp;omega
 have hmx:n≤maxLen:=by unfold maxLen;omega
 clear h0 h1
 go_enter Tryz.func140,Tryz.ntmps140
 go_wp2_with (at_builtin;go_loud (refine wpList_append_rd rfl (.tmp 21) (.tmp 22) 81 rfl w.heap.size 3 i0 (.int .i64 0) 1 8 Tryz.underlying81 hi hz0 hz1 hz2 rfl (by decide) _ 0 _ rfl (own_empty w (Nat.le_refl _)) _ _ n c (l.map (.int .i64)) rfl (by rw [List.length_map,HN.out,Nat.mul_one]) (HX.out.kp0 ((Kp.refl [] w).alloc _)) (oc_ints _ _) (by omega) (by omega) (by simp) ?_);intro v2 w2 hown2 hgrow2 hat2)
 simp only [Nat.zero_add,List.nil_append] at hown2
 obtain ⟨A2,c2,rfl,_⟩:=own_form hown2;have HO2:=Lib.hid (show w2.ownsRow w.heap.size 3 1 (.slice A2 n c2) n (l.map (.int .i64)) from hown2);have HK2:=Lib.hid (((Kp.refl [] w).alloc (.cells #[] 3)).grown hgrow2 (fun g hg=>.inr (own_ge (own_empty w (Nat.le_refl _)) hg).1));clear hown2 hgrow2 hat2;go_wp2_with fail
 go_loopw [3] (fun y wr=>∃ (m c1:Nat) (A1:Option Addr) (v:List Int),y=.slice A1 m c1∧1≤m∧m≤n∧Hid (v.length=m)∧Hid (∀ x ∈ v,x≤9223372036854775807)∧Hid (Dl 0 l ↔ Dl 0 v)∧Hid (wr.ownsRow w.heap.size 3 1 (.slice A1 m c1) m (v.map (.int .i64)))∧Hid (Kp [] w wr)) (fun y _=>match y with | .slice _ q _=>q | _=>0)
 case atStart=>exact ⟨n,c2,A2,l,rfl,by omega,by omega,HN,HRG,Lib.hid Iff.rfl,HO2,HK2⟩
 case round =>
  clear HO2 HK2;obtain ⟨m,c1,A1,v,rfl,hm1,hmn,HV,HR,HD,HO,HK⟩:=hrel;by_cases hm2:1 < m
  ·obtain ⟨d0,hd0⟩:=Deep.one (v:=v) (by rw [HV.out];omega);have hmd:decide ((1:Int) < (m:Int))=true:=by simp;omega
   go_wp2_with fail
   go_loopw [4,5] (fun y x wr'=>∃ (b i:Nat) (d:Int),y=.int .i64 (b:Int)∧x=.int .i64 (i:Int)∧b < i∧i≤m∧Hid (Deep v b i d)∧Dr wr wr') (fun _ x _=>n - (intOf x).toNat)
   case atStart=>exact ⟨0,1,d0,rfl,rfl,by omega,by omega,Lib.hid hd0,Dr.refl wr⟩
   case round =>
    obtain ⟨b,i,d,rfl,rfl,hbi,him,HB,hdr⟩:=hrel;have HO1:=Lib.hid (own_kp0 HO.out (hdr.kp []));have HK1:=Lib.hid (HK.out.trans (hdr.kp []));by_cases hlt:i < m
    ·obtain ⟨bd,rfl,_,hcb⟩:=(own_rd HO1.out).at_ (i:=b) (u:=.int .i64 d) (by rw [List.getElem?_map,HB.out.1];rfl);obtain ⟨y,bd',hyk,he,_,hcy⟩:=(own_rd HO1.out).ix (i:=i) (by rw [HV.out];exact hlt);injection he with he
     subst he;have hbm:b < m:=by omega
     by_cases hdy:d < y
     ·have HB2:=Lib.hid (HB.out.new hyk hdy);clear hyk;go_wp2_with fail
      go_quiet (fail)
      go_wp2_with fail;exact ⟨⟨i,i+1,y,rfl,by go_num,by omega,by omega,HB2,hdr.drewN nq⟩,by simp [intOf];omega⟩
     ·have HB2:=Lib.hid (HB.out.more hyk hdy);clear hyk;go_wp2_with fail
      go_quiet (fail)
      go_wp2_with fail
      go_roundw
      case rel=>exact ⟨b,i+1,d,rfl,by go_num,by omega,by omega,HB2,hdr.drewN nq⟩
      case measure=>simp [intOf];omega
    ·obtain rfl:m=i:=by omega
     have HBM:=Lib.hid (show Deep v b v.length d by rw [HV.out];exact HB.out);obtain ⟨b1,hb1⟩:∃ b1,b1=b+1:=⟨_,rfl⟩;obtain ⟨b2,hb2⟩:∃ b2,b2=b+2:=⟨_,rfl⟩;have hwb1:IntKind.i64.wrap ((b:Int)+1)=(b1:Int):=by rw [IntKind.wrap_i64];omega
     have hwb2:IntKind.i64.wrap ((b:Int)+2)=(b2:Int):=by rw [IntKind.wrap_i64];omega
     have HB1:=Lib.hid hb1;clear hb1;have HB2:=Lib.hid hb2;clear hb2;rcases own_blk HO1.out with ⟨_,h0,_⟩ | ⟨g,cap,rest,hv,hge,hblk,hmc,hcm,hl,hcl⟩
     ·omega
     ·injection hv with hv1 hv2 hv3
      subst hv1 hv3;have hbm:b < m:=by omega
      have hcb:wr.cell? ⟨g,b,none⟩=some (.int .i64 d):=by
       rw [hblk.cell,List.getElem?_append_left (by rw [List.length_map,HV.out];exact hbm),List.getElem?_map,HB.out.1];rfl
      have hfb:=hblk.free b;have HBK:=Lib.hid hblk;clear hblk;by_cases hdl:d < 1
      ·have hf:decide (okF l)=false:=by
        refine decide_eq_false (fun h=>?_);have hneed:=HBM.out.need (by rw [HV.out];omega) (HD.out.1 (HOK.out.1 h));omega
       have HF:=Lib.hid hf;clear hf;have hdd:decide (d < 1)=true:=by simp [hdl]
       go_wp2_with fail
       go_quiet (fail)
       go_wp2_with fail;go_ret;exact ⟨by rw [HF.out];rfl,HK1.out.drewN _⟩
      ·have hdd:decide (d < 1)=false:=by simp;omega
       by_cases hbe:b1=m
       ·have hf:decide (okF l)=false:=by
         refine decide_eq_false (fun h=>?_);have hneed:=HBM.out.need (by rw [HV.out];omega) (HD.out.1 (HOK.out.1 h));have:=(List.getElem?_eq_some_iff.1 hneed.2.1).1;have:=HV.out;have:=HB1.out;omega
        have HF:=Lib.hid hf;clear hf;have hee:((b1:Int) == (m:Int))=true:=by simp [hbe]
        clear hbe;go_wp2_with fail
        go_quiet (fail)
        go_wp2_with fail;go_ret;exact ⟨by rw [HF.out];rfl,HK1.out.drewN _⟩
       ·have hee:((b1:Int) == (m:Int))=false:=by simp;omega
        have hb1m:b1 < m:=by have:=HB1.out;omega
        obtain ⟨y,hy⟩:∃ y,v[b1]? = some y:=⟨_,List.getElem?_eq_getElem (by rw [HV.out];exact hb1m)⟩
        have hcy:wr.cell? ⟨g,b1,none⟩=some (.int .i64 y):=by
         rw [HBK.out.cell,List.getElem?_append_left (by rw [List.length_map,HV.out];exact hb1m),List.getElem?_map,hy];rfl
        by_cases hyd:y=d
        ·subst hyd;have hyn:(y != y)=false:=by simp
         have hwd:IntKind.i64.wrap (y - 1)=y - 1:=by
          have:=HR.out y (List.mem_of_getElem? hy);rw [IntKind.wrap_i64];omega
         have hb2m:b2≤m:=by have:=HB1.out;have:=HB2.out;omega
         have hb1c:b1≤c1:=by omega
         have hb2c:b2≤c1:=by omega
         have hv2:Dl 0 v ↔ Dl 0 (v.take b ++ (y - 1) :: v.drop (b+2)):=
          ⟨fun h=>(HBM.out.need (by rw [HV.out];omega) h).2.2,fun h=>Deep.back HB.out.1 (by rw [← HB1.out];exact hy) h⟩
         rw [← merged (y - 1) (by rw [HV.out];exact hbm)] at hv2;have hu:(v.set b (y - 1)).length=m:=by rw [List.length_set,HV.out]
         have hub:∀ x ∈ v.set b (y - 1),x≤9223372036854775807:=fun x hx=>by
          rcases List.mem_or_eq_of_mem_set hx with h | h
          ·exact HR.out x h
          ·have:=HR.out y (List.mem_of_getElem? hy);omega
         have hblk2:=HBK.out.set_ b (.int .i64 (y - 1));rw [List.set_append_left _ _ (by rw [List.length_map,HV.out];exact hbm),← List.map_set] at hblk2;obtain ⟨u,hue⟩:∃ u,u=v.set b (y - 1):=⟨_,rfl⟩;rw [← hue] at hv2 hu hub hblk2;rw [← HB1.out,← HB2.out] at hv2;have HDV:=Lib.hid (HD.out.trans hv2);have HU:=Lib.hid hu;have HUB:=Lib.hid hub;have HBK2:=Lib.hid hblk2;clear hv2 hu hub hblk2 hue hy hbe;go_wp2_with fail
         go_quiet (fail)
         go_upto_region 16 with fail
         obtain ⟨W1,hW1⟩:∃ W1,W1=(wr.drewN nq).setCell ⟨g,b,none⟩ (.int .i64 (y - 1)):=⟨_,rfl⟩;have hk1:Kp [] w W1:=by rw [hW1];exact (HK1.out.drewN nq).setCell (.inr hge) _
         have hb1:Blk W1 g 3 (u.map (.int .i64) ++ rest):=by rw [hW1];exact HBK2.out
         rw [← hW1];have HE:=Lib.hid (show ((W1.alloc (.cells #[] 3)).drew).ownsRow w.heap.size 3 1 (.slice (some ⟨W1.heap.size,0,none⟩) 0 0) 0 [] from own_empty W1 hk1.size);have HE1:=Lib.hid (show ((W1.alloc (.cells #[] 3)).drew).ownsRow W1.heap.size 3 1 (.slice (some ⟨W1.heap.size,0,none⟩) 0 0) 0 [] from own_empty W1 (Nat.le_refl _))
         have hr0:Rd W1 W1.heap.size (some ⟨g,0,none⟩) (u.map (.int .i64)):=by
          have:=(hb1.rd hb1.lt).take (u.map (Value.int .i64)).length
          rwa [List.take_left'] at this
          rfl
         have HR1:=Lib.hid (show Rd W1 W1.heap.size (some ⟨g,0,none⟩) ((u.take b1).map (.int .i64)) by rw [List.map_take];exact hr0.take b1)
         have HR2:=Lib.hid (show Rd W1 W1.heap.size (if c1=b2 then some ⟨g,0,none⟩ else some ⟨g,b2,none⟩) ((u.drop b2).map (.int .i64)) by
          by_cases hcb:c1=b2
          ·rw [List.drop_of_length_le (by rw [HU.out];omega)];exact Rd.nil _ _ _
          ·rw [if_neg hcb,List.map_drop];have:=hr0.drop b2
           rwa [addr_lit_add,Nat.zero_add] at this)
         have HKW:=Lib.hid hk1;clear hk1;have HMX:=Lib.hid (show b1+(m - b2)≤1000 by have:=HB1.out;have:=HB2.out;omega);clear hb1 hr0 hW1
         go_region_law (first
          | (refine step_append_rd rfl (.tmp 73) (.tmp 77) 81 rfl w.heap.size 3 i0 (.int .i64 0) 1 8 Tryz.underlying81 hi hz0 hz1 hz2 rfl (by decide) _ 0 _ rfl HE.out _ _ b1 _ ((u.take b1).map (.int .i64)) rfl (by rw [List.length_map,List.length_take,HU.out];omega) (HR1.out.kp0 (((Kp.refl [] _).alloc _).drew)) (oc_ints _ _) (by unfold maxLen;omega) (by omega) (Nat.le_trans HKW.out.size (((Kp.refl [] _).alloc _).drew).size) ?_;intro v2 w2 hown2 hgrow2 hat2)
          | (refine step_append_rd rfl (.tmp 78) (.tmp 82) 81 rfl w.heap.size 3 i0 (.int .i64 0) 1 8 Tryz.underlying81 hi hz0 hz1 hz2 rfl (by decide) _ (0+b1) _ rfl hown2 _ _ (m - b2) _ ((u.drop b2).map (.int .i64)) rfl (by rw [List.length_map,List.length_drop,HU.out];omega) (HR2.out.kp0 ((((Kp.refl [] _).alloc (.cells #[] 3)).drew).grown hgrow2 (fun g hg=>.inr (own_ge HE1.out hg).1))) (oc_ints _ _) (by unfold maxLen;omega) (by omega) (Nat.le_trans HKW.out.size ((((Kp.refl [] _).alloc (.cells #[] 3)).drew).grown hgrow2 (fun g hg=>.inr (own_ge HE1.out hg).1)).size) ?_;intro v3 w3 hown3 hgrow3 hat3))
         obtain ⟨A3,c3,rfl,_⟩:=own_form hown3;have hm3:0+b1+(m - b2)=m - 1:=by have:=HB1.out;have:=HB2.out;omega
         rw [hm3] at hown3;rw [hm3];simp only [List.nil_append] at hown3
         rw [← List.map_append] at hown3;have HO3:=Lib.hid hown3;clear hown3;have HK3:=Lib.hid ((HKW.out.trans ((((Kp.refl [] _).alloc (.cells #[] 3)).drew).grown hgrow2 (fun g hg=>.inr (own_ge HE1.out hg).1))).grown hgrow3 (fun g hg=>.inr (own_ge hown2 hg).1));have HU3:=Lib.hid (show (u.take b1 ++ u.drop b2).length=m - 1 by rw [List.length_append,List.length_take,List.length_drop,HU.out];have:=HB1.out;have:=HB2.out;omega)
         have HR3:=Lib.hid (show ∀ x ∈ u.take b1 ++ u.drop b2,x≤9223372036854775807 from fun x hx=>by
          rcases List.mem_append.1 hx with h | h
          ·exact HUB.out x (List.mem_of_mem_take h)
          ·exact HUB.out x (List.mem_of_mem_drop h))
         clear hown2 hgrow2 hgrow3 hat2 hat3 hm3;go_wp2_with fail
         all_goals exact ⟨⟨m - 1,c3,A3,⟨rfl,rfl,rfl⟩,by omega,by omega,u.take b1 ++ u.drop b2,HU3,HR3,HDV,HO3⟩,by omega⟩
        ·have hf:decide (okF l)=false:=by
          refine decide_eq_false (fun h=>?_);have hneed:=HBM.out.need (by rw [HV.out];omega) (HD.out.1 (HOK.out.1 h));have h2:=hneed.2.1;rw [← HB1.out,hy] at h2;injection h2 with h2
          exact hyd h2
         have HF:=Lib.hid hf;clear hf hy;have hyn:(y != d)=true:=by simp [hyd]
         clear hyd;go_wp2_with fail
         go_quiet (fail)
         go_wp2_with fail;go_ret;exact ⟨by rw [HF.out];rfl,HK1.out.drewN _⟩
  ·obtain rfl:m=1:=by omega
   obtain ⟨y,rfl⟩:=List.length_eq_one_iff.1 HV.out;obtain ⟨bd,rfl,_,hct⟩:=(own_rd HO.out).at_ (i:=0) (u:=.int .i64 y) rfl;rw [addr_add_zero] at hct
   have hd:decide (okF l)=(y == 0):=by
    have e:okF l ↔ y=0:=by
     rw [HOK.out,HD.out]
     constructor
     ·intro h;have:=h.bound y (by simp)
      simp at this
      omega
     ·rintro rfl;exact .leaf 0
    by_cases h0:y=0
    ·rw [decide_eq_true (e.2 h0),h0];rfl
    ·rw [decide_eq_false (fun h=>h0 (e.1 h))];simp [h0]
   have HDD:=Lib.hid hd;clear hd;go_wp2_with fail;go_ret;exact ⟨by rw [HDD.out];rfl,HK.out⟩
end Go.Proofs.YtanacapkfllbnaaGreatDoor
namespace Go.Proofs.YtanacapkfllbnaaGreatDoor

def cl:List Int→List Int→Int
 | x :: l,y :: m=>x * y+cl l m
 | _,_=>0
theorem okF_lens {l:List Int} (h:okW l):okF (lensL l):=by
 refine ⟨by rw [lensL_len h];exact h.2.2,?_⟩;by_cases h1:l.length=1
 ·exact .inl (lensL_one h h1)
 ·have:=h.2.1;refine .inr ⟨by rw [lensL_len h];omega,?_⟩;rw [lensL_more h h1];exact lens_dl (wt l) _ _ _ _ rfl (by omega)
def ways (H:Int):List Int→Nat
 | []=>0
 | y :: l=>2 ^ (H - y).toNat+ways H l
def lexN:List Nat→List Nat→Bool
 | _,[]=>false
 | [],_ :: _=>true
 | a :: x,b :: y=>decide (a < b) || (decide (a=b) && lexN x y)
theorem lexN_total:∀ (a b:List Nat),lexN a b=true ∨ a=b ∨ lexN b a=true
 | [],[]=>.inr (.inl rfl)
 | [],_ :: _=>.inl rfl
 | _ :: _,[]=>.inr (.inr rfl)
 | x :: a,y :: b=>by
   rcases Nat.lt_trichotomy x y with h | h | h
   ·exact .inl (by simp [lexN,h])
   ·subst h;rcases lexN_total a b with h | h | h
    ·exact .inl (by simp [lexN,h])
    ·exact .inr (.inl (by rw [h]))
    ·exact .inr (.inr (by simp [lexN,h]))
   ·exact .inr (.inr (by simp [lexN,h]))
theorem lexN_asymm:∀ (a b:List Nat),lexN a b=true→lexN b a=false
 | _,[],h=>by simp [lexN] at h
 | [],_ :: _,_=>rfl
 | x :: a,y :: b,h=>by
   simp only [lexN,Bool.or_eq_true,decide_eq_true_eq,Bool.and_eq_true] at h
   rcases h with h | ⟨rfl,h⟩
   ·simp [lexN,show ¬ y < x by omega,show ¬ y=x by omega]
   ·simp [lexN,lexN_asymm a b h]
theorem lexN_irrefl (a:List Nat):lexN a a=false:=by
 induction a with
 | nil=>rfl
 | cons x a ih=>simp [lexN,ih]
theorem lexN_trans:∀ {a b c:List Nat},lexN a b=true→lexN b c=true→lexN a c=true
 | _,[],_,h,_=>by simp [lexN] at h
 | _,_ :: _,[],_,h=>by simp [lexN] at h
 | [],_ :: _,_ :: _,_,_=>rfl
 | x :: a,y :: b,z :: c,h,k=>by
   simp only [lexN,Bool.or_eq_true,decide_eq_true_eq,Bool.and_eq_true] at h k ⊢
   rcases h with h | ⟨rfl,h⟩ <;> rcases k with k | ⟨rfl,k⟩
   ·exact .inl (by omega)
   ·exact .inl h
   ·exact .inl k
   ·exact .inr ⟨rfl,lexN_trans h k⟩
def risI:Int→List Int→Prop
 | _,[]=>True
 | b,x :: l=>b < x∧x < 257∧risI x l
theorem risI_snoc:∀ {l:List Int} {b x:Int},risI b (l ++ [x]) ↔ risI b l∧l.getLastD b < x∧x < 257
 | [],b,x=>by simp [risI]
 | y :: l,b,x=>by
   rw [List.cons_append,risI,risI,risI_snoc (l:=l),List.getLastD_cons];simp only [and_assoc]
theorem risI_app:∀ {l m:List Int} {b:Int},risI b (l ++ m)→risI b l
 | [],_,_,_=>trivial
 | _ :: _,_,_,h=>⟨h.1,h.2.1,risI_app h.2.2⟩
theorem risI_ge:∀ {l:List Int} {b:Int},risI b l→∀ x ∈ l,b < x∧x≤256
 | [],_,_,x,hx=>by simp at hx
 | y :: l,b,h,x,hx=>by
   rcases List.mem_cons.1 hx with rfl | hx
   ·exact ⟨h.1,by have:=h.2.1;omega⟩
   ·have:=risI_ge h.2.2 x hx;have:=h.1;exact ⟨by omega,by omega⟩
theorem risI_nat:∀ {l:List Int} {b:Int},-1≤b→risI b l→(l.map Int.toNat).Pairwise (· < ·)∧(∀ s ∈ l.map Int.toNat,s≤256)∧(l.map Int.toNat).map (fun (x:Nat)=>(x:Int))=l
 | [],_,_,_=>⟨by simp,by simp,rfl⟩
 | y :: l,b,hb,h=>by
   have h1:=h.1;have h2:=h.2.1;obtain ⟨p,q,r⟩:=risI_nat (l:=l) (b:=y) (by omega) h.2.2;refine ⟨?_,?_,?_⟩
   ·rw [List.map_cons,List.pairwise_cons];refine ⟨fun z hz=>?_,p⟩;obtain ⟨u,hu,rfl⟩:=List.mem_map.1 hz;have:=(risI_ge h.2.2 u hu).1;omega
   ·intro s hs;rw [List.map_cons] at hs;rcases List.mem_cons.1 hs with rfl | hs
    ·omega
    ·exact q s hs
   ·rw [List.map_cons,List.map_cons,r,Int.toNat_of_nonneg (by omega)]
def okMake (some lens:List Int):Prop:=some.length=lens.length∧okF lens∧risI (-1) some
theorem okF_pos {l:List Int} (h:okF l):1≤l.length:=by
 rcases h.2 with h | h
 ·rw [h];simp
 ·omega
theorem okF_range {l:List Int} (h:okF l):∀ x ∈ l,1≤x∧x≤256:=by
 intro x hx;rcases h.2 with e | ⟨h2,hd⟩
 ·rw [e] at hx;simp at hx;omega
 ·have:=hd.bound x hx;have:=h.1;exact ⟨by have:=this;have:=(hd.bound x hx).2.2 (by omega);omega,by omega⟩
theorem okMake_code {some lens:List Int} (h:okMake some lens):∃ T,CodeT T (some.map Int.toNat) lens:=by
 obtain ⟨h1,h2,h3⟩:=h;obtain ⟨p,q,r⟩:=risI_nat (by omega) h3;rcases h2.2 with e | ⟨h4,hd⟩
 ·subst e
  match some,h1,q with
  | [x],_,q=>exact ⟨_,codeT_one x.toNat (q x.toNat (by simp))⟩
 ·exact codeT_more hd h4 (by rw [List.length_map];exact h1) p q
noncomputable def treeC (some lens:List Int):CT:=open Classical in if h:okMake some lens then (okMake_code h).choose else .nil
theorem treeC_code {some lens:List Int} (h:okMake some lens):CodeT (treeC some lens) (some.map Int.toNat) lens:=by
 unfold treeC;rw [dif_pos h];exact (okMake_code h).choose_spec
theorem slT_zip {T:CT} {sg:List Nat} {ls:List Int} (h:CodeT T sg ls):((T.al []).map fun x=>(x.1,x.2.length))=sg.zip (ls.map Int.toNat):=by
 rw [← h.1,← h.2.1,List.map_map]
 induction T.al [] with
 | nil=>rfl
 | cons x l ih=>simp [ih]
end Go.Proofs.YtanacapkfllbnaaGreatDoor
