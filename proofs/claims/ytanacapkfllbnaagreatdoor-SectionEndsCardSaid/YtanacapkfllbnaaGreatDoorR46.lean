/-
  LAYER 12's law: texts in order, each once: the walk of sorted.
  LAYER 12 (front): Text at any place.
  LAYER 12 (front): no front; what calls on a front answer, be there one or none (FV).
  LAYER 13 (section): pieces, rising, four.
  LAYER 13 (section): a section in memory; Find, Text, Prefix, Len.
  LAYER 13 (section): the reader: take.
  LAYER 13 (section): the reader: number.
  The document's layer 13: number.
  CONDITIONS: as each lemma says.
-/
import Derived.Test.YtanacapkfllbnaaGreatDoorR45
import Derived.Test.YtanacapkfllbnaaGreatDoorR11
import Derived.Test.YtanacapkfllbnaaGreatDoorR07
import Derived.Test.YtanacapkfllbnaaGreatDoorR32
import Derived.Test.YtanacapkfllbnaaGreatDoorR00
import Derived.Test.YtanacapkfllbnaaGreatDoorR19
import Derived.Deep.DeepCutAuto
import Derived.Deep.CutBlock
import Derived.Deep.RegionLaw
set_option maxRecDepth 100000
set_option maxHeartbeats 4000000
namespace Go.Proofs.YtanacapkfllbnaaGreatDoor
open Go.RowKit

theorem Tryz.info_str12:(Tryz.prog.info? 9).map (fun i=>(i.zero,i.size,i.bytes))=some (some (.string ⟨#[]⟩),1,16):=by kernel_rfl
theorem findN_step {L:List ByteArray} {s t:ByteArray} {j:Nat} (hj:j≤findN L s) (ht:L[j]? = some t):(lexN (txt t) (txt s)=true→j+1≤findN L s)∧(lexN (txt t) (txt s)=false→findN L s=j):=by
 constructor
 ·intro h;by_cases e:j=findN L s
  ·rw [e] at ht;exact absurd h (findN_at L s t ht)
  ·omega
 ·intro h;by_cases e:j < findN L s
  ·have:=findN_pre L s j t e ht;unfold LtT at this;rw [h] at this
   cases this
  ·omega
theorem own_nilS (w:World) (base:Nat) (e:TypeId) (size:Nat) (hb:base≤w.heap.size):(w.alloc (.cells #[] e)).ownsRow base e size (.slice (some ⟨w.heap.size,0,none⟩) 0 0) 0 []:=
 ⟨by simp,.inr ⟨_,0,#[],rfl,hb,Blk.new w e [],Nat.le_refl _,Nat.zero_le _,by simp,by simp⟩⟩
theorem ocS (L:List ByteArray):∀ u ∈ L.map Value.string,u.oneCell'=true:=by intro u hu;obtain ⟨x,_,rfl⟩:=List.mem_map.1 hu;rfl
theorem ftext_out (i:Int) (n lo hi lo' hi' f p:Nat) (S:List Nat) (T:CT) (sg:List Nat) (ls:List Int) (ss:List ByteArray) (w:World) (h:Fro w lo hi lo' hi' S f p T sg ls ss) (hn:ss.length=n) (hio:i < 0 ∨ (n:Int)≤i) :
  Calls Tryz.prog 57 #[.pointer (some ⟨f,0,none⟩),.int .i64 i] w fun e w'=>e=.returned (.tuple #[.string ⟨#[]⟩,.bool false])∧FroP w w' S lo hi lo' hi' f p T sg ls ss:=by
 have hnewB:=h.new (o:=w.heap.size+1) (by omega);have HF:=Lib.hid h;have HN:=Lib.hid hn;have HNB:=Lib.hid hnewB;obtain ⟨w0,hw0⟩:∃ w0,w0=(w.alloc (.cells #[.int .i64 i] 3)).alloc (.cells #[.string ⟨#[]⟩] 9):=⟨_,rfl⟩;obtain ⟨ii,hii⟩:∃ ii,ii=w.heap.size:=⟨_,rfl⟩;have hk0:Kp [] w w0:=by rw [hw0];exact ((Kp.refl [] w).alloc _).alloc _
 have hbi:Blk w0 ii 3 [.int .i64 i]:=by
  rw [hw0,hii];exact (Blk.new w 3 [.int .i64 i]).kp0 ((Kp.refl [] _).alloc _)
 have hbo:Blk w0 (ii+1) 9 [.string ⟨#[]⟩]:=by
  rw [hw0,hii];have:=Blk.new (w.alloc (.cells #[.int .i64 i] 3)) 9 [.string ⟨#[]⟩];simpa using this
 have hci:w0.cell? ⟨ii,0,none⟩=some (.int .i64 i):=by rw [hbi.cell];rfl
 rw [← hii] at hnewB HNB;have HBO:=Lib.hid hbo;have HK0:=Lib.hid hk0;have HII:=Lib.hid hii;have HW0:=Lib.hid hw0;have hsz:=Lib.hid (show w.heap.size≤ii+1 by omega);clear h hn hnewB hw0 hii hk0 hbi hbo;by_cases hi0:i < 0
 ·have hid:decide (i < 0)=true:=by simpa using hi0
  go_enter Tryz.func57,Tryz.ntmps57
  go_wp2_with fail;rw [← HW0.out,← HII.out]
  go_quiet (fail)
  obtain ⟨w1,hw1⟩:∃ w1,w1=w0.drewN nq:=⟨_,rfl⟩;rw [← hw1];have HK1:=Lib.hid (show Kp [] w w1 from by rw [hw1];exact HK0.out.drewN _);have HB1:=Lib.hid (show Blk w1 (ii+1) 9 [.string ⟨#[]⟩] from HBO.out.kp0 (by rw [hw1];exact (Kp.refl _ _).drewN _));clear hw1 hci
  have HEND:=Lib.hid (show FroP w (w1.setCell ⟨ii+1,0,none⟩ (.string ⟨#[]⟩)) S lo hi lo' hi' f p T sg ls ss from by
   have hks:Kp [ii+1] w1 (w1.setCell ⟨ii+1,0,none⟩ (.string ⟨#[]⟩)):=(Kp.refl _ _).setCell (.inl (by simp)) _;have hk:Kp [] w (w1.setCell ⟨ii+1,0,none⟩ (.string ⟨#[]⟩)):=HK1.out.trans' hks (fun x hx=>.inr (by rw [List.mem_singleton.1 hx];exact hsz.out))
   exact ⟨S,HF.out.kp0 hk,Grow.refl _ _,hk.mono (by simp)⟩)
  have hcc:w1.cell? ⟨ii+1,0,none⟩=some (.string ⟨#[]⟩):=by rw [HB1.out.cell];rfl
  have hff:=HB1.out.free 0;have hcd:(w1.setCell ⟨ii+1,0,none⟩ (.string ⟨#[]⟩)).cell? ⟨ii+1,0,none⟩=some (.string ⟨#[]⟩):=by rw [(HB1.out.set_ 0 (.string ⟨#[]⟩)).cell];rfl
  go_wp2_with fail
  (try simp only [Exit.inBlock,Exit.then])
  exact bodyPost_ret (v:=.tuple #[.string ⟨#[]⟩,.bool false]) (results_cell_t rfl _ _ ⟨ii+1,0,none⟩ _ _ rfl rfl hcd (agg_str _)) rfl ⟨rfl,HEND.out⟩
 ·obtain ⟨k,rfl⟩:∃ k:Nat,i=(k:Int):=⟨i.toNat,by omega⟩;have hkd1:decide ((k:Int) < 0)=false:=decide_eq_false (by omega);have hkd2:decide ((n:Int)≤(k:Int))=true:=by simp;omega
  have hkd3:decide (n≤k)=true:=by simp;omega
  go_enter Tryz.func57,Tryz.ntmps57
  go_wp2_with fail;rw [← HW0.out,← HII.out]
  go_region_held3 (fun w'=>w'.cell? ⟨ii,0,none⟩=some (.int .i64 (k:Int))) (go_keep)
   (first
    | (go_at_call 56
       refine (flen_any n _ (HF.out.fr.kp0 (HK0.out.drew)) HN.out).mono ?_
       rintro e w1 ⟨rfl,rfl⟩))
  obtain ⟨w1,hw1⟩:∃ w1,w1=w0.drew:=⟨_,rfl⟩;rw [← hw1];have HK1:=Lib.hid (show Kp [] w w1 from by rw [hw1];exact HK0.out.drew);have HB1:=Lib.hid (show Blk w1 (ii+1) 9 [.string ⟨#[]⟩] from by rw [hw1];exact HBO.out.drew);clear hw1
  have HEND:=Lib.hid (show FroP w (w1.setCell ⟨ii+1,0,none⟩ (.string ⟨#[]⟩)) S lo hi lo' hi' f p T sg ls ss from by
   have hks:Kp [ii+1] w1 (w1.setCell ⟨ii+1,0,none⟩ (.string ⟨#[]⟩)):=(Kp.refl _ _).setCell (.inl (by simp)) _;have hk:Kp [] w (w1.setCell ⟨ii+1,0,none⟩ (.string ⟨#[]⟩)):=HK1.out.trans' hks (fun x hx=>.inr (by rw [List.mem_singleton.1 hx];exact hsz.out))
   exact ⟨S,HF.out.kp0 hk,Grow.refl _ _,hk.mono (by simp)⟩)
  have hcc:w1.cell? ⟨ii+1,0,none⟩=some (.string ⟨#[]⟩):=by rw [HB1.out.cell];rfl
  have hff:=HB1.out.free 0;have hcd:(w1.setCell ⟨ii+1,0,none⟩ (.string ⟨#[]⟩)).cell? ⟨ii+1,0,none⟩=some (.string ⟨#[]⟩):=by rw [(HB1.out.set_ 0 (.string ⟨#[]⟩)).cell];rfl
  go_wp2_with fail
  (try simp only [Exit.inBlock,Exit.then])
  exact bodyPost_ret (v:=.tuple #[.string ⟨#[]⟩,.bool false]) (results_cell_t rfl _ _ ⟨ii+1,0,none⟩ _ _ rfl rfl hcd (agg_str _)) rfl ⟨rfl,HEND.out⟩
theorem ftext_all (i:Int) (n lo hi lo' hi' f p:Nat) (S:List Nat) (T:CT) (sg:List Nat) (ls:List Int) (ss:List ByteArray) (w:World) (h:Fro w lo hi lo' hi' S f p T sg ls ss) (hn:ss.length=n) (hn9:n≤1000000) :
  Calls Tryz.prog 57 #[.pointer (some ⟨f,0,none⟩),.int .i64 i] w fun e w'=>e=.returned (textV ss i)∧FroP w w' S lo hi lo' hi' f p T sg ls ss:=by
 by_cases h1:i < 0 ∨ (n:Int)≤i
 ·rw [textV_none (by rw [hn];exact h1)];exact ftext_out i n lo hi lo' hi' f p S T sg ls ss w h hn h1
 ·obtain ⟨k,rfl⟩:∃ k:Nat,i=(k:Int):=⟨i.toNat,by omega⟩;have hk:ss[k]? = some ss[k]:=List.getElem?_eq_getElem (by omega);rw [textV_some (by omega) (show ss[((k:Int)).toNat]? = some ss[k] from hk)];exact ftext_in k n lo hi lo' hi' f p S T sg ls ss _ w h hn hn9 hk
theorem textV_form (ss:List ByteArray) (i:Int):∃ a b,textV ss i=.tuple #[.string a,.bool b]:=by
 unfold textV
 split
 ·exact ⟨_,_,rfl⟩
 ·exact ⟨_,_,rfl⟩
def NoFr (w:World) (v:Value):Prop:=v=.pointer none ∨ ∃ p,v=.pointer (some ⟨p,0,none⟩)∧w.cell? ⟨p,1,none⟩=some (.pointer none)
theorem NoFr.kp0 {w w':World} {v:Value} (h:NoFr w v) (hk:Kp [] w w'):NoFr w' v:=by
 rcases h with h | ⟨p,h1,h2⟩
 ·exact .inl h
 ·exact .inr ⟨p,h1,hk.cell h2 (by simp)⟩
theorem nfthere_any (v:Value) (w:World) (h:NoFr w v):Calls Tryz.prog 81 #[v] w fun e w'=>e=.returned (.bool false)∧w=w':=by
 rcases h with rfl | ⟨p,rfl,hc⟩
 all_goals
  go_enter Tryz.func81,Tryz.ntmps81
  go_wp2_with fail;go_ret;exact ⟨rfl,rfl⟩
theorem nflen_any (v:Value) (w:World) (h:NoFr w v):Calls Tryz.prog 56 #[v] w fun e w'=>e=.returned (.int .i64 0)∧w=w':=by
 have H:=Lib.hid h;clear h
 go_enter Tryz.func56,Tryz.ntmps56
 go_wp2_with fail;refine (nfthere_any v w H.out).mono ?_;rintro e w1 ⟨rfl,rfl⟩;go_wp2_with fail;go_ret;exact ⟨rfl,rfl⟩
theorem nffind_nil (s:ByteArray) (w:World):Calls Tryz.prog 37 #[.pointer none,.string s] w fun e w'=>e=.returned (.tuple #[.int .i64 0,.bool false])∧Kp [] w w':=by
 obtain ⟨a,ha⟩:∃ a,a=w.heap.size:=⟨_,rfl⟩;obtain ⟨w0,hw0⟩:∃ w0,w0=(((w.alloc (.cells #[.pointer none] 63)).alloc (.cells #[.string s] 9)).alloc (.cells #[.int .i64 0] 3)).alloc (.cells #[.bool false] 4):=⟨_,rfl⟩;have hk0:Kp [] w w0:=by rw [hw0];exact ((((Kp.refl [] w).alloc _).alloc _).alloc _).alloc _
 have hb1:Blk w0 a 63 [.pointer none]:=by
  rw [hw0,ha];exact (Blk.new w 63 [.pointer none]).kp0 ((((Kp.refl [] _).alloc _).alloc _).alloc _)
 have hx3:Blk w0 (a+1+1) 3 [.int .i64 0]:=by
  rw [hw0,ha];have:=(Blk.new ((w.alloc (.cells #[.pointer none] 63)).alloc (.cells #[.string s] 9)) 3 [.int .i64 0]).kp0 ((Kp.refl [] _).alloc (.cells #[.bool false] 4));simpa using this
 have hx4:Blk w0 (a+1+1+1) 4 [.bool false]:=by
  rw [hw0,ha];have:=Blk.new (((w.alloc (.cells #[.pointer none] 63)).alloc (.cells #[.string s] 9)).alloc (.cells #[.int .i64 0] 3)) 4 [.bool false];simpa using this
 have hc1:w0.cell? ⟨a,0,none⟩=some (.pointer none):=by rw [hb1.cell];rfl
 have hc3:w0.cell? ⟨a+1+1,0,none⟩=some (.int .i64 0):=by rw [hx3.cell];rfl
 have hf3:=hx3.free 0;have hx41:=hx4.far (p:=⟨a+1+1,0,none⟩) (by simp) (.int .i64 0);have hc4:(w0.setCell ⟨a+1+1,0,none⟩ (.int .i64 0)).cell? ⟨a+1+1+1,0,none⟩=some (.bool false):=by rw [hx41.cell];rfl
 have hf4:=hx41.free 0;obtain ⟨w3,hw3⟩:∃ w3,w3=(w0.setCell ⟨a+1+1,0,none⟩ (.int .i64 0)).setCell ⟨a+1+1+1,0,none⟩ (.bool false):=⟨_,rfl⟩;have hb3:Blk w3 (a+1+1) 3 [.int .i64 0]:=by rw [hw3];exact (hx3.set_ 0 (.int .i64 0)).far (p:=⟨a+1+1+1,0,none⟩) (by simp) _
 have hb4:Blk w3 (a+1+1+1) 4 [.bool false]:=by rw [hw3];exact hx41.set_ 0 (.bool false)
 have hks:Kp [a+1+1,a+1+1+1] w0 w3:=by rw [hw3];exact ((Kp.refl [a+1+1,a+1+1+1] w0).setCell (.inl (by simp)) _).setCell (.inl (by simp)) _
 have HK3:=Lib.hid (show Kp [] w w3 from hk0.trans' hks (fun x hx=>by
  simp only [List.mem_cons,List.not_mem_nil,or_false] at hx
  exact .inr (by omega)))
 have HQ3:=Lib.hid (show w3.cell? ⟨a+1+1,0,none⟩=some (.int .i64 0) from by rw [hb3.cell];rfl);have HQ4:=Lib.hid (show w3.cell? ⟨a+1+1+1,0,none⟩=some (.bool false) from by rw [hb4.cell];rfl);have HW3:=Lib.hid hw3;have HW0:=Lib.hid hw0;have HA:=Lib.hid ha;clear ha hw0 hk0 hb1 hx3 hx4 hx41 hw3 hb3 hb4 hks
 go_enter Tryz.func37,Tryz.ntmps37
 go_wp2_with fail;rw [← HW0.out,← HA.out];refine (nfthere_any (.pointer none) w0 (.inl rfl)).mono ?_;rintro e w1 ⟨rfl,rfl⟩;go_wp2_with fail
 (try simp only [Exit.inBlock,Exit.then])
 rw [← HW3.out];exact bodyPost_ret (v:=.tuple #[.int .i64 0,.bool false]) (results_cell2 rfl _ _ ⟨a+1+1,0,none⟩ ⟨a+1+1+1,0,none⟩ _ _ rfl rfl HQ3.out HQ4.out (agg_int _) (agg_bool _)) rfl ⟨rfl,HK3.out⟩
theorem nftext_any (v:Value) (i:Int) (w:World) (h:NoFr w v) :
  Calls Tryz.prog 57 #[v,.int .i64 i] w fun e w'=>e=.returned (.tuple #[.string ⟨#[]⟩,.bool false])∧Kp [] w w':=by
 obtain ⟨w0,hw0⟩:∃ w0,w0=(w.alloc (.cells #[.int .i64 i] 3)).alloc (.cells #[.string ⟨#[]⟩] 9):=⟨_,rfl⟩;obtain ⟨ii,hii⟩:∃ ii,ii=w.heap.size:=⟨_,rfl⟩;have hk0:Kp [] w w0:=by rw [hw0];exact ((Kp.refl [] w).alloc _).alloc _
 have hbi:Blk w0 ii 3 [.int .i64 i]:=by
  rw [hw0,hii];exact (Blk.new w 3 [.int .i64 i]).kp0 ((Kp.refl [] _).alloc _)
 have hbo:Blk w0 (ii+1) 9 [.string ⟨#[]⟩]:=by
  rw [hw0,hii];have:=Blk.new (w.alloc (.cells #[.int .i64 i] 3)) 9 [.string ⟨#[]⟩];simpa using this
 have hci:w0.cell? ⟨ii,0,none⟩=some (.int .i64 i):=by rw [hbi.cell];rfl
 have HF:=Lib.hid h;have HBO:=Lib.hid hbo;have HK0:=Lib.hid hk0;have HII:=Lib.hid hii;have HW0:=Lib.hid hw0;have hsz:=Lib.hid (show w.heap.size≤ii+1 by omega);clear h hw0 hii hk0 hbi hbo;by_cases hi0:i < 0
 ·have hid:decide (i < 0)=true:=by simpa using hi0
  go_enter Tryz.func57,Tryz.ntmps57
  go_wp2_with fail;rw [← HW0.out,← HII.out]
  go_quiet (fail)
  obtain ⟨w1,hw1⟩:∃ w1,w1=w0.drewN nq:=⟨_,rfl⟩;rw [← hw1];have HK1:=Lib.hid (show Kp [] w w1 from by rw [hw1];exact HK0.out.drewN _);have HB1:=Lib.hid (show Blk w1 (ii+1) 9 [.string ⟨#[]⟩] from HBO.out.kp0 (by rw [hw1];exact (Kp.refl _ _).drewN _));clear hw1 hci
  have HEND:=Lib.hid (show Kp [] w (w1.setCell ⟨ii+1,0,none⟩ (.string ⟨#[]⟩)) from by
   have hks:Kp [ii+1] w1 (w1.setCell ⟨ii+1,0,none⟩ (.string ⟨#[]⟩)):=(Kp.refl _ _).setCell (.inl (by simp)) _
   exact HK1.out.trans' hks (fun x hx=>.inr (by rw [List.mem_singleton.1 hx];exact hsz.out)))
  have hcc:w1.cell? ⟨ii+1,0,none⟩=some (.string ⟨#[]⟩):=by rw [HB1.out.cell];rfl
  have hff:=HB1.out.free 0;have hcd:(w1.setCell ⟨ii+1,0,none⟩ (.string ⟨#[]⟩)).cell? ⟨ii+1,0,none⟩=some (.string ⟨#[]⟩):=by rw [(HB1.out.set_ 0 (.string ⟨#[]⟩)).cell];rfl
  go_wp2_with fail
  (try simp only [Exit.inBlock,Exit.then])
  exact bodyPost_ret (v:=.tuple #[.string ⟨#[]⟩,.bool false]) (results_cell_t rfl _ _ ⟨ii+1,0,none⟩ _ _ rfl rfl hcd (agg_str _)) rfl ⟨rfl,HEND.out⟩
 ·obtain ⟨k,rfl⟩:∃ k:Nat,i=(k:Int):=⟨i.toNat,by omega⟩;have hkd1:decide ((k:Int) < 0)=false:=decide_eq_false (by omega);have hkd3:decide (0≤(k:Int))=true:=by simp
  go_enter Tryz.func57,Tryz.ntmps57
  go_wp2_with fail;rw [← HW0.out,← HII.out]
  go_region_held3 (fun w'=>w'.cell? ⟨ii,0,none⟩=some (.int .i64 (k:Int))) (go_keep)
   (first
    | (go_at_call 56
       refine (nflen_any v _ (HF.out.kp0 (HK0.out.drew))).mono ?_
       rintro e w1 ⟨rfl,rfl⟩))
  obtain ⟨w1,hw1⟩:∃ w1,w1=w0.drew:=⟨_,rfl⟩;rw [← hw1];have HK1:=Lib.hid (show Kp [] w w1 from by rw [hw1];exact HK0.out.drew);have HB1:=Lib.hid (show Blk w1 (ii+1) 9 [.string ⟨#[]⟩] from by rw [hw1];exact HBO.out.drew);clear hw1
  have HEND:=Lib.hid (show Kp [] w (w1.setCell ⟨ii+1,0,none⟩ (.string ⟨#[]⟩)) from by
   have hks:Kp [ii+1] w1 (w1.setCell ⟨ii+1,0,none⟩ (.string ⟨#[]⟩)):=(Kp.refl _ _).setCell (.inl (by simp)) _
   exact HK1.out.trans' hks (fun x hx=>.inr (by rw [List.mem_singleton.1 hx];exact hsz.out)))
  have hcc:w1.cell? ⟨ii+1,0,none⟩=some (.string ⟨#[]⟩):=by rw [HB1.out.cell];rfl
  have hff:=HB1.out.free 0;have hcd:(w1.setCell ⟨ii+1,0,none⟩ (.string ⟨#[]⟩)).cell? ⟨ii+1,0,none⟩=some (.string ⟨#[]⟩):=by rw [(HB1.out.set_ 0 (.string ⟨#[]⟩)).cell];rfl
  go_wp2_with fail
  (try simp only [Exit.inBlock,Exit.then])
  exact bodyPost_ret (v:=.tuple #[.string ⟨#[]⟩,.bool false]) (results_cell_t rfl _ _ ⟨ii+1,0,none⟩ _ _ rfl rfl hcd (agg_str _)) rfl ⟨rfl,HEND.out⟩
def FV (X Y:Nat) (w:World) (S:List Nat) (v:Value) (ts:List ByteArray):Prop:=riseT ts=true∧ts.length≤1000000∧((ts=[]∧v=.pointer none∧S=[]) ∨ ∃ (f lo hi lo' hi' p:Nat) (T:CT) (sg:List Nat) (ls:List Int),v=.pointer (some ⟨f,0,none⟩)∧Fro w lo hi lo' hi' S f p T sg ls ts∧X≤lo∧hi≤Y∧X≤lo'∧hi'≤Y)
def FVP (X Y:Nat) (w w':World) (S:List Nat) (v:Value) (ts:List ByteArray):Prop:=∃ S',FV X Y w' S' v ts∧Grow w S S'∧Kp S w w'
theorem FV.kp0 {w w':World} {X Y:Nat} {S:List Nat} {v:Value} {ts:List ByteArray} (h:FV X Y w S v ts) (hk:Kp [] w w'):FV X Y w' S v ts:=by
 obtain ⟨h1,h2,h3 | ⟨f,lo,hi,lo',hi',p,T,sg,ls,h3,h4,hb⟩⟩:=h
 ·exact ⟨h1,h2,.inl h3⟩
 ·exact ⟨h1,h2,.inr ⟨f,lo,hi,lo',hi',p,T,sg,ls,h3,h4.kp0 hk,hb⟩⟩
theorem FV.lt {w:World} {X Y:Nat} {S:List Nat} {v:Value} {ts:List ByteArray} (h:FV X Y w S v ts):∀ g ∈ S,g < w.heap.size:=by
 obtain ⟨h1,h2,⟨_,_,rfl⟩ | ⟨f,lo,hi,lo',hi',p,T,sg,ls,h3,h4,hb⟩⟩:=h
 ·intro g hg;cases hg
 ·exact h4.lt
theorem FV.kp {X Y:Nat} {w w':World} {S U:List Nat} {v:Value} {ts:List ByteArray} (h:FV X Y w S v ts) (hk:Kp U w w') (hU:∀ g ∈ U,g ∉ S∧(g < X ∨ Y≤g)∧g ≠ 0):FV X Y w' S v ts:=by
 obtain ⟨h1,h2,h3 | ⟨f,lo,hi,lo',hi',p,T,sg,ls,h3,h4,hb⟩⟩:=h
 ·exact ⟨h1,h2,.inl h3⟩
 ·exact ⟨h1,h2,.inr ⟨f,lo,hi,lo',hi',p,T,sg,ls,h3,h4.kp hk (fun g hg=>by have h5:=hU g hg;exact ⟨h5.1,by omega,by omega,h5.2.2⟩),hb⟩⟩
theorem FV.tabS {X Y:Nat} {w:World} {S:List Nat} {v:Value} {ts:List ByteArray} (h:FV X Y w S v ts):∀ g ∈ S,g ≠ 0:=by
 obtain ⟨h1,h2,⟨_,_,rfl⟩ | ⟨f,lo,hi,lo',hi',p,T,sg,ls,h3,h4,hb⟩⟩:=h
 ·intro g hg;cases hg
 ·intro g hg e;exact h4.tabS (e ▸ hg)
theorem fvlen_any {X Y:Nat} {S:List Nat} {v:Value} {ts:List ByteArray} (w:World) (h:FV X Y w S v ts):Calls Tryz.prog 56 #[v] w fun e w'=>e=.returned (.int .i64 ((ts.length:Nat):Int))∧w=w':=by
 obtain ⟨h1,h2,⟨rfl,rfl,rfl⟩ | ⟨f,lo,hi,lo',hi',p,T,sg,ls,rfl,h4,hb⟩⟩:=h
 ·exact nflen_any _ w (.inl rfl)
 ·exact flen_any _ w h4.fr rfl
theorem fvfind_any {X Y:Nat} {S:List Nat} {v:Value} {ts:List ByteArray} (s:ByteArray) (w:World) (h:FV X Y w S v ts):Calls Tryz.prog 37 #[v,.string s] w fun e w'=>e=.returned (.tuple #[.int .i64 ((findN ts s:Nat):Int),.bool (isF ts s)])∧FVP X Y w w' S v ts:=by
 obtain ⟨h1,h2,⟨rfl,rfl,rfl⟩ | ⟨f,lo,hi,lo',hi',p,T,sg,ls,rfl,h4,hb⟩⟩:=h
 ·refine (nffind_nil s w).mono fun e w' hh=>?_
  obtain ⟨rfl,hk⟩:=hh;exact ⟨rfl,[],⟨h1,h2,.inl ⟨rfl,rfl,rfl⟩⟩,Grow.refl _ _,hk⟩
 ·refine (ffind_any _ lo hi lo' hi' f p S T sg ls ts s w h4 rfl h2 h1).mono fun e w' hh=>?_
  obtain ⟨rfl,S',k1,k2,k3⟩:=hh;exact ⟨rfl,S',⟨h1,h2,.inr ⟨f,lo,hi,lo',hi',p,T,sg,ls,rfl,k1,hb⟩⟩,k2,k3⟩
theorem fvtext_any {X Y:Nat} {S:List Nat} {v:Value} {ts:List ByteArray} (i:Int) (w:World) (h:FV X Y w S v ts):Calls Tryz.prog 57 #[v,.int .i64 i] w fun e w'=>e=.returned (textV ts i)∧FVP X Y w w' S v ts:=by
 obtain ⟨h1,h2,⟨rfl,rfl,rfl⟩ | ⟨f,lo,hi,lo',hi',p,T,sg,ls,rfl,h4,hb⟩⟩:=h
 ·refine (nftext_any _ i w (.inl rfl)).mono fun e w' hh=>?_
  obtain ⟨rfl,hk⟩:=hh;refine ⟨?_,[],⟨h1,h2,.inl ⟨rfl,rfl,rfl⟩⟩,Grow.refl _ _,hk⟩;rw [textV_none (by by_cases h:i < 0;exact .inl h;exact .inr (by simp;omega))]
 ·refine (ftext_all i _ lo hi lo' hi' f p S T sg ls ts w h4 rfl h2).mono fun e w' hh=>?_
  obtain ⟨rfl,S',k1,k2,k3⟩:=hh;exact ⟨rfl,S',⟨h1,h2,.inr ⟨f,lo,hi,lo',hi',p,T,sg,ls,rfl,k1,hb⟩⟩,k2,k3⟩
theorem Tryz.info_strS:(Tryz.prog.info? 9).map (fun i=>(i.zero,i.size,i.bytes))=some (some (.string ⟨#[]⟩),1,16):=by kernel_rfl
theorem spieces_any (A:Option Addr) (n c B:Nat) (ts:List ByteArray) (w:World) (hx:Rd w B A (ts.map .string)) (hn:ts.length=n) (hb:n≤1000000) (hs:∀ s ∈ ts,s.size≤1000000000) :
  Calls Tryz.prog 33 #[.slice A n c] w fun e w'=>∃ (Ao:Option Addr) (co:Nat),e=.returned (.slice Ao n co)∧w'.ownsRow w.heap.size 9 1 (.slice Ao n co) n ((piecesL ts n).map .string)∧Kp [] w w':=by
 obtain ⟨i0,hi0,hz0,hz1,hz2⟩:=info_parts Tryz.info_strS;have HX:=Lib.hid hx;clear hx;have HN:=Lib.hid hn;clear hn;have HS:=Lib.hid hs;clear hs
 go_enter Tryz.func33,Tryz.ntmps33
 go_wp2_with fail
 go_loopw [2,7] (fun v x wr=>∃ (k co:Nat) (Ao:Option Addr),v=.slice Ao k co∧x=.int .i64 (k:Int)∧k≤n∧Hid (wr.ownsRow w.heap.size 9 1 (.slice Ao k co) k ((piecesL ts k).map .string))∧Hid (Kp [] w wr)) (fun _ x _=>n - (intOf x).toNat)
 case atStart=>exact ⟨0,0,none,rfl,rfl,by omega,Lib.hid (World.ownsRow_nil _ _ _ 1),Lib.hid (Kp.refl _ _)⟩
 case round =>
  obtain ⟨k,co,Ao,rfl,rfl,hk,HO,HK⟩:=hrel;by_cases hlt:k < n
  ·obtain ⟨s,ad,hs,rfl,_,hcs⟩:=(HX.out.kp0 HK.out).str (k:=k) (by rw [HN.out];exact hlt);have hb0:(0:Int)≤(k:Int):=by omega
   have hb1:(k:Int) < (n:Int):=by omega
   have hsz:=HS.out s (List.mem_of_getElem? hs);obtain ⟨rm,hrm⟩:∃ rm,rm=k % 8:=⟨_,rfl⟩;have HRM:=Lib.hid hrm;have htm:Int.tmod (k:Int) 8=(rm:Int):=by rw [Int.tmod_eq_emod_of_nonneg (by omega)];omega
   have HSK:=Lib.hid hs;clear hs hrm;by_cases hz:rm=0
   ·have htm0:Int.tmod (k:Int) 8=0:=by rw [htm,hz];rfl
    have HPX:=Lib.hid (pieceS_first HSK.out (show k % 8=0 by have:=HRM.out;omega));have HKX:=Lib.hid (Kp.refl [] wr);clear htm;have HOX:=Lib.hid (own_kp0 HO.out HKX.out);have HSX:=Lib.hid (show w.heap.size≤wr.heap.size from Nat.le_trans HK.out.size HKX.out.size);have HKW:=Lib.hid (HK.out.trans HKX.out);clear HO HK
    go_wp2_with (at_builtin;go_loud (refine wpList_append_rd rfl (.tmp 24) (.tmp 26) 22 rfl (w.heap.size) 9 i0 (.string ⟨#[]⟩) 1 16 Tryz.underlying22 hi0 hz0 hz1 hz2 rfl (by decide) (.slice Ao k co) (k) _ rfl (own_kp0 HOX.out ((Kp.refl [] _).alloc _)) _ _ 1 1 [.string s] rfl rfl (Rd.new wr #[.string s] 9 (0,0)) (by intro u hu;simp at hu;subst hu;rfl) (by unfold maxLen;omega) (by omega) (by have:=HSX.out;simp;omega) ?_);intro v3 w3 hown3 hgrow3 hat3;obtain ⟨hka3,hga3⟩:=app_facts hgrow3 hat3;obtain ⟨A3',c3',rfl,_⟩:=own_form hown3)
    exact ⟨⟨k+1,c3',A3',rfl,by go_num,by omega,Lib.hid (by rw [piecesL_succ,List.map_append,HPX.out];exact hown3),Lib.hid (HKW.out.trans' hka3 (fun x hx=>.inr (own_ge HOX.out (mem_ownL.1 hx)).1))⟩,by simp [intOf];omega⟩
   ·have hrm0:0 < rm:=by omega
    obtain ⟨j,hj⟩:∃ j,k=j+1:=⟨k - 1,by have:=HRM.out;omega⟩;have hkj:(k:Int) - 1=(j:Int):=by omega
    have hj0:(0:Int)≤(j:Int):=by omega
    have hj1:(j:Int) < (n:Int):=by omega
    obtain ⟨t,ad',ht,e',_,hct⟩:=(HX.out.kp0 HK.out).str (k:=j) (by rw [HN.out];omega);injection e' with e'
    subst e';have htz:=HS.out t (List.mem_of_getElem? ht)
    have HPX:=Lib.hid (show pieceS ts k=s.extract (alikeN (txt t) (txt s)) s.size from by
     have h1:=HSK.out;have h2:=HRM.out;rw [hj] at h1 ⊢
     exact pieceS_rest h1 ht (by omega))
    obtain ⟨al,hal⟩:∃ al,alikeN (txt t) (txt s)=al:=⟨_,rfl⟩;have hals:al≤s.size:=by rw [← hal,← txt_len];exact (alikeN_le _ _).2.1
    have hals2:(al:Int)≤(s.size:Int):=by omega
    have hal0:(0:Int)≤(al:Int):=by omega
    have HAL:=Lib.hid hal;rw [hal] at HPX;clear ht hj hal;go_wp2_with fail;refine (falike_any t s wr (by omega) (by omega)).mono ?_;rw [HAL.out];rintro e w7 ⟨rfl,hd7⟩;have HKX:=Lib.hid (hd7.kp []);clear hd7 hct hcs htm;have HOX:=Lib.hid (own_kp0 HO.out HKX.out);have HSX:=Lib.hid (show w.heap.size≤w7.heap.size from Nat.le_trans HK.out.size HKX.out.size);have HKW:=Lib.hid (HK.out.trans HKX.out);clear HO HK
    go_wp2_with (at_builtin;go_loud (refine wpList_append_rd rfl (.tmp 24) (.tmp 26) 22 rfl (w.heap.size) 9 i0 (.string ⟨#[]⟩) 1 16 Tryz.underlying22 hi0 hz0 hz1 hz2 rfl (by decide) (.slice Ao k co) (k) _ rfl (own_kp0 HOX.out ((Kp.refl [] _).alloc _)) _ _ 1 1 [.string (s.extract al s.size)] rfl rfl (Rd.new w7 #[.string (s.extract al s.size)] 9 (0,0)) (by intro u hu;simp at hu;subst hu;rfl) (by unfold maxLen;omega) (by omega) (by have:=HSX.out;simp;omega) ?_);intro v3 w3 hown3 hgrow3 hat3;obtain ⟨hka3,hga3⟩:=app_facts hgrow3 hat3;obtain ⟨A3',c3',rfl,_⟩:=own_form hown3)
    exact ⟨⟨k+1,c3',A3',rfl,by go_num,by omega,Lib.hid (by rw [piecesL_succ,List.map_append,HPX.out];exact hown3),Lib.hid (HKW.out.trans' hka3 (fun x hx=>.inr (own_ge HOX.out (mem_ownL.1 hx)).1))⟩,by simp [intOf];omega⟩
  ·obtain rfl:k=n:=by omega
   go_wp2_with fail;go_ret;exact ⟨Ao,co,rfl,HO.out,HK.out⟩
theorem srising_any (A:Option Addr) (n c B:Nat) (ss:List ByteArray) (w:World) (hx:Rd w B A (ss.map .string)) (hn:ss.length=n) (hb:n≤1000000000) :
  Calls Tryz.prog 30 #[.slice A n c] w fun e w'=>e=.returned (.bool (riseT ss))∧Dr w w':=by
 have HX:=Lib.hid hx;clear hx;have HN:=Lib.hid hn;clear hn
 go_enter Tryz.func30,Tryz.ntmps30
 go_wp2_with fail
 go_loopw [6] (fun i wr=>∃ k:Nat,i=.int .i64 (k:Int)∧k≤n∧Hid (∀ i s t,i+1 < k→ss[i]? = some s→ss[i+1]? = some t→lexN (txt s) (txt t)=true)∧Dr w wr) (fun i _=>n - (intOf i).toNat)
 case atStart=>exact ⟨0,rfl,by omega,Lib.hid (fun i s t h=>by omega),Dr.refl w⟩
 case round =>
  obtain ⟨k,rfl,hk,HA,hd⟩:=hrel;by_cases hlt:k < n
  ·have hk1:(k:Int) < (n:Int):=by omega
   by_cases hz:k=0
   ·subst hz;go_wp2_with fail
    go_quiet (fail)
    go_wp2_with fail;exact ⟨⟨1,by go_num,by omega,Lib.hid (fun i s t h=>by omega),hd.drewN _⟩,by simp [intOf];omega⟩
   ·obtain ⟨j,rfl⟩:∃ j,k=j+1:=⟨k - 1,by omega⟩;obtain ⟨t,ad,ht,rfl,_,hct⟩:=(HX.out.kp0 (hd.kp [])).str (k:=j+1) (by rw [HN.out];exact hlt);obtain ⟨s,ad',hs,e',_,hcs⟩:=(HX.out.kp0 (hd.kp [])).str (k:=j) (by rw [HN.out];omega);injection e' with e'
    subst e';have hctp:wr.cell? ⟨ad.block,ad.off+(j+1),none⟩=some (.string t):=hct;have hb0:(0:Int)≤(j:Int):=by omega
    have hb1:(j:Int) < (n:Int):=by omega
    have hb2:(j:Int)+1 < (n:Int):=by omega
    have hb3:(0:Int) < (j:Int)+1:=by omega
    have HLT:=Lib.hid (less_txt s t);have HS:=Lib.hid hs;have HT:=Lib.hid ht;clear hct hs ht hz
    cases hxx:lexN (txt s) (txt t) with
    | true =>
      have hl:Op.bytesLess s.toList t.toList=true:=by rw [HLT.out,hxx]
      have HA2:=Lib.hid (show ∀ i s t,i+1 < j+1+1→ss[i]? = some s→ss[i+1]? = some t→lexN (txt s) (txt t)=true from fun i s' t' hi h1 h2=>by
       by_cases hij:i=j
       ·subst hij;rw [HS.out] at h1;rw [HT.out] at h2;injection h1 with h1
        injection h2 with h2
        subst h1 h2;exact hxx
       ·exact HA.out i s' t' (by omega) h1 h2)
      clear hxx;go_wp2_with fail
      go_quiet (fail)
      go_wp2_with fail;exact ⟨⟨j+1+1,by go_num,by omega,HA2,hd.drewN _⟩,by simp [intOf];omega⟩
    | false =>
      have hl:Op.bytesLess s.toList t.toList=false:=by rw [HLT.out,hxx]
      have HE:=Lib.hid (show riseT ss=false from by
       cases h:riseT ss with
       | false=>rfl
       | true=>rw [(riseT_iff ss).1 h j s t HS.out HT.out] at hxx;cases hxx)
      clear hxx;go_wp2_with fail
      go_quiet (fail)
      go_wp2_with fail;go_ret;exact ⟨by rw [HE.out];rfl,hd.drewN _⟩
  ·obtain rfl:k=n:=by omega
   have HE:=Lib.hid (show riseT ss=true from (riseT_iff ss).2 (fun i s t h1 h2=>HA.out i s t (by rw [← HN.out];exact (List.getElem?_eq_some_iff.1 h2).1) h1 h2));go_wp2_with fail;go_ret;exact ⟨by rw [HE.out];rfl,hd⟩
def SecM (X Y:Nat) (w:World) (S:List Nat) (sp:Nat) (v:Value) (g m c:Nat) (ts:List ByteArray):Prop:=Blk w sp 65 [v,.slice (some ⟨g,0,none⟩) m c]∧FV X Y w S v ts∧sp ∉ S
def SecP (X Y:Nat) (w w':World) (S:List Nat) (sp:Nat) (v:Value) (g m c:Nat) (ts:List ByteArray):Prop:=∃ S',SecM X Y w' S' sp v g m c ts∧Grow w S S'∧Kp S w w'
section
variable {X Y:Nat} {w w':World} {S:List Nat} {sp g m c:Nat} {v:Value} {ts:List ByteArray}
theorem SecM.kp0 (h:SecM X Y w S sp v g m c ts) (hk:Kp [] w w'):SecM X Y w' S sp v g m c ts:=⟨h.1.kp0 hk,h.2.1.kp0 hk,h.2.2⟩
theorem SecM.cells (h:SecM X Y w S sp v g m c ts):w.cell? ⟨sp,0,none⟩=some v∧w.cell? ⟨sp,1,none⟩=some (.slice (some ⟨g,0,none⟩) m c):=⟨by rw [h.1.cell];rfl,by rw [h.1.cell];rfl⟩
theorem SecM.kp {U:List Nat} (h:SecM X Y w S sp v g m c ts) (hk:Kp U w w') (hU:∀ x ∈ U,x ∉ S∧(x < X ∨ Y≤x)∧x ≠ 0) (hs:sp ∉ U):SecM X Y w' S sp v g m c ts:=⟨h.1.kp hk hs,h.2.1.kp hk hU,h.2.2⟩
theorem SecM.step (h:SecM X Y w S sp v g m c ts) (hp:FVP X Y w w' S v ts):SecP X Y w w' S sp v g m c ts:=by
 obtain ⟨S',h1,h2,h3⟩:=hp;refine ⟨S',⟨h.1.kp h3 h.2.2,h1,fun hm=>?_⟩,h2,h3⟩;rcases h2 sp hm with k | k
 ·exact h.2.2 k
 ·have:=h.1.lt;omega
theorem SecP.trans {w1 w2 w3:World} {S1:List Nat} (hg:Grow w1 S S1) (hk:Kp S w1 w2) (h:SecP X Y w2 w3 S1 sp v g m c ts):SecP X Y w1 w3 S sp v g m c ts:=by
 obtain ⟨S',h1,h2,h3⟩:=h;refine ⟨S',h1,fun x hx=>?_,hk.trans' h3 (fun x hx=>hg x hx)⟩;rcases h2 x hx with k | k
 ·exact hg x k
 ·exact .inr (Nat.le_trans hk.size k)
theorem sthere_any (w:World) (h:SecM X Y w S sp v g m c ts):Calls Tryz.prog 36 #[.pointer (some ⟨sp,0,none⟩)] w fun e w'=>e=.returned (.bool true)∧w=w':=by
 obtain ⟨hc0,hc1⟩:=h.cells;clear h
 go_enter Tryz.func36,Tryz.ntmps36
 go_wp2_with fail;go_ret;exact ⟨rfl,rfl⟩
theorem slen_any (w:World) (h:SecM X Y w S sp v g m c ts):Calls Tryz.prog 27 #[.pointer (some ⟨sp,0,none⟩)] w fun e w'=>e=.returned (.int .i64 ((ts.length:Nat):Int))∧w=w':=by
 obtain ⟨hc0,hc1⟩:=h.cells;have H:=Lib.hid h;clear h
 go_enter Tryz.func27,Tryz.ntmps27
 go_wp2_with fail;refine (sthere_any w H.out).mono ?_;rintro e w1 ⟨rfl,rfl⟩;go_wp2_with fail;refine (fvlen_any w H.out.2.1).mono ?_;rintro e w1 ⟨rfl,rfl⟩;go_wp2_with fail;go_ret;exact ⟨rfl,rfl⟩
theorem stext_any (i:Int) (w:World) (h:SecM X Y w S sp v g m c ts) (hi:i≤9223372036854775807):Calls Tryz.prog 29 #[.pointer (some ⟨sp,0,none⟩),.int .i64 i] w fun e w'=>e=.returned (textV ts (i - 1))∧SecP X Y w w' S sp v g m c ts:=by
 obtain ⟨hc0,hc1⟩:=h.cells;have H:=Lib.hid h;clear h;obtain ⟨a,b,hab⟩:=textV_form ts (i - 1);have HAB:=Lib.hid hab;by_cases h1:i < 1
 ·have h1d:decide (i < 1)=true:=by simpa using h1
  have HN:=Lib.hid (show textV ts (i - 1)=.tuple #[.string ⟨#[]⟩,.bool false] from textV_none (.inl (by omega)));clear hab
  go_enter Tryz.func29,Tryz.ntmps29
  go_wp2_with fail;refine (sthere_any w H.out).mono ?_;rintro e w1 ⟨rfl,rfl⟩;go_wp2_with fail;go_ret2;exact ⟨by rw [HN.out];rfl,S,H.out,Grow.refl _ _,Kp.refl _ _⟩
 ·obtain ⟨k,rfl⟩:∃ k:Nat,i=(k:Int)+1:=⟨(i - 1).toNat,by omega⟩;have h1d:decide ((k:Int)+1 < 1)=false:=decide_eq_false (by omega);have hkb:(k:Int)+1≤9223372036854775807:=hi;have HAB2:=Lib.hid (show textV ts (k:Int)=.tuple #[.string a,.bool b] from by rw [← HAB.out];congr 1;omega);clear hab h1;rw [HAB.out]
  go_enter Tryz.func29,Tryz.ntmps29
  go_wp2_with fail;refine (sthere_any w H.out).mono ?_;rintro e w1 ⟨rfl,rfl⟩;go_wp2_with fail;refine (fvtext_any (k:Int) w H.out.2.1).mono ?_;rw [HAB2.out];rintro e w1 ⟨rfl,hp⟩;have HP:=Lib.hid (H.out.step hp);clear hp;go_wp2_with fail;go_ret2;exact ⟨rfl,HP.out⟩
theorem sfind_any (s:ByteArray) (w:World) (h:SecM X Y w S sp v g m c ts):Calls Tryz.prog 14 #[.pointer (some ⟨sp,0,none⟩),.string s] w fun e w'=>e=.returned (.tuple #[.int .i64 (if isF ts s then ((findN ts s:Nat):Int)+1 else 0),.bool (isF ts s)])∧SecP X Y w w' S sp v g m c ts:=by
 obtain ⟨hc0,hc1⟩:=h.cells;have HL:=Lib.hid h.2.1.2.1;have H:=Lib.hid h;clear h;have hfl:=findN_le ts s;obtain ⟨k,hk⟩:∃ k,findN ts s=k:=⟨_,rfl⟩;obtain ⟨F,hF⟩:∃ F,isF ts s=F:=⟨_,rfl⟩;have HKF:=Lib.hid (show findN ts s=k∧isF ts s=F from ⟨hk,hF⟩);have hkb:k≤1000000:=by have:=HL.out;omega
 rw [hk,hF];clear hk hF hfl
 go_enter Tryz.func14,Tryz.ntmps14
 go_wp2_with fail;refine (sthere_any w H.out).mono ?_;rintro e w1 ⟨rfl,rfl⟩;go_wp2_with fail;refine (fvfind_any s w H.out.2.1).mono ?_;rw [HKF.out.1,HKF.out.2];rintro e w1 ⟨rfl,hp⟩;have HP:=Lib.hid (H.out.step hp);clear hp
 cases F with
 | true =>
   go_wp2_with fail;go_ret2;exact ⟨rfl,HP.out⟩
 | false =>
   go_wp2_with fail;go_ret2;exact ⟨rfl,HP.out⟩
theorem hasprefix_lite (s p:ByteArray) (w:World) (_hs:s.size≤1000000000000) (_hp:p.size≤1000000000000):Calls Tryz.prog 87 #[.string s,.string p] w fun e w'=>e=.returned (.bool (beginsN (txt s) (txt p)))∧w=w':=by
 by_cases hle:p.size≤s.size
 ·have hle2:(p.size:Int)≤(s.size:Int):=by omega
  have hp0:(0:Int)≤(p.size:Int):=by omega
  have HB:=Lib.hid (show beginsN (txt s) (txt p)=decide (s.extract 0 p.size=p) from by
   unfold beginsN;have h1:txt (s.extract 0 p.size)=(txt s).take p.size:=by rw [txt_extract,List.drop_zero,Nat.sub_zero]
   rw [txt_len,← h1];by_cases h2:s.extract 0 p.size=p
   ·rw [h2];simp
   ·rw [decide_eq_false h2,decide_eq_false (fun e=>h2 (txt_inj e))])
  by_cases hq:s.extract 0 p.size=p
  ·have HQ:=Lib.hid hq;have hee:(s.extract 0 p.size).toList=p.toList:=by rw [hq]
   clear hq
   go_enter Tryz.func87,Tryz.ntmps87
   go_wp2_with fail;go_ret;exact ⟨by rw [HB.out,decide_eq_true HQ.out];simp,rfl⟩
  ·have hee:=str_eq_false hq
   go_enter Tryz.func87,Tryz.ntmps87
   go_wp2_with fail;go_ret;exact ⟨by rw [HB.out,decide_eq_false hq];rfl,rfl⟩
 ·have hle2:decide (p.size≤s.size)=false:=by simp;omega
  have HB:=Lib.hid (show beginsN (txt s) (txt p)=false from by
   unfold beginsN;refine decide_eq_false (fun e=>?_);have h1:=congrArg List.length e;rw [List.length_take,txt_len,txt_len] at h1
   omega)
  go_enter Tryz.func87,Tryz.ntmps87
  go_wp2_with fail;go_ret;exact ⟨by rw [HB.out];rfl,rfl⟩
theorem hasprefix_any (s p:ByteArray) (w:World) (hs:s.size≤1000000000000) (hp:p.size≤1000000000000):Calls Tryz.prog 38 #[.string s,.string p] w fun e w'=>e=.returned (.bool (beginsN (txt s) (txt p)))∧w=w':=by
 obtain ⟨b,hb⟩:∃ b,beginsN (txt s) (txt p)=b:=⟨_,rfl⟩;have HB:=Lib.hid hb;rw [hb];clear hb
 go_enter Tryz.func38,Tryz.ntmps38
 go_wp2_with fail;refine (hasprefix_lite s p w hs hp).mono ?_;rw [HB.out];rintro e w1 ⟨rfl,rfl⟩;go_wp2_with fail;go_ret;exact ⟨rfl,rfl⟩
theorem sprefix_any (p:ByteArray) (w:World) (h:SecM X Y w S sp v g m c ts) (hp:p.size≤1000000000000) (hz:∀ t ∈ ts,t.size≤1000000000000):Calls Tryz.prog 12 #[.pointer (some ⟨sp,0,none⟩),.string p] w fun e w'=>e=.returned (.tuple #[.int .i64 (((findN ts p+1:Nat)):Int),.int .i64 (((findN ts p+1+preC ts p:Nat)):Int)])∧SecP X Y w w' S sp v g m c ts:=by
 obtain ⟨hc0,hc1⟩:=h.cells;have HL:=Lib.hid h.2.1.2.1;have HRI:=Lib.hid h.2.1.1;have H:=Lib.hid h;have HZ:=Lib.hid hz;clear h hz;have hpl:=preC_le ts p;obtain ⟨k,hk⟩:∃ k,findN ts p=k:=⟨_,rfl⟩;obtain ⟨F,hF⟩:∃ F,isF ts p=F:=⟨_,rfl⟩;obtain ⟨C,hC⟩:∃ C,preC ts p=C:=⟨_,rfl⟩;obtain ⟨n,hn⟩:∃ n,ts.length=n:=⟨_,rfl⟩;have HKF:=Lib.hid (show findN ts p=k∧isF ts p=F from ⟨hk,hF⟩);have HIN:=Lib.hid (fun (i:Nat) (t:ByteArray) (ht:ts[i]? = some t)=>(show beginsN (txt t) (txt p)=decide (k≤i∧i < k+C) from by rw [← hk,← hC];exact pre_in HRI.out ht));have HN:=Lib.hid hn;rw [hk,hC] at hpl ⊢;rw [hn] at hpl;have hnb:n≤1000000:=by rw [← hn];exact HL.out
 clear hk hF hC hn
 go_enter Tryz.func12,Tryz.ntmps12
 go_wp2_with fail;refine (sthere_any w H.out).mono ?_;rintro e w1 ⟨rfl,rfl⟩;go_wp2_with fail;refine (fvfind_any p w H.out.2.1).mono ?_;rw [HKF.out.1,HKF.out.2];rintro e w1 ⟨rfl,hp1⟩;obtain ⟨S1,hs1,hg1,hk1⟩:=H.out.step hp1;have HS1:=Lib.hid hs1;have HG1:=Lib.hid hg1;have HK1:=Lib.hid hk1;clear hp1 hs1 hg1 hk1 hc0 hc1;go_wp2_with fail;refine (stext_any ((k:Int)+1) w1 HS1.out (by omega)).mono ?_;obtain ⟨a,b,hab⟩:=textV_form ts ((k:Int)+1 - 1);have HAB:=Lib.hid (show textV ts ((k+0:Nat):Int)=.tuple #[.string a,.bool b] from by rw [← hab];congr 1;omega);rw [hab];rintro e w2 ⟨rfl,S2,hs2,hg2,hk2⟩;have HS2:=Lib.hid hs2;have HG2:=Lib.hid (show Grow w S S2 from fun x hx=>(hg2 x hx).elim (HG1.out x) (fun h=>.inr (Nat.le_trans HK1.out.size h)));have HK2:=Lib.hid (HK1.out.trans' hk2 (fun x hx=>HG1.out x hx));clear hab hs2 hg2 hk2 HS1 HG1 HK1 H;go_wp2_with fail
 go_loopw [5,8,9] (fun x y z wr=>∃ (j:Nat) (a:ByteArray) (b:Bool) (S':List Nat),x=.int .i64 ((k+1+j:Nat):Int)∧y=.string a∧z=.bool b∧j≤C∧Hid (textV ts ((k+j:Nat):Int)=.tuple #[.string a,.bool b])∧Hid (SecM X Y wr S' sp v g m c ts)∧Hid (Grow w S S')∧Hid (Kp S w wr)) (fun x _ _ _=>k+2+C - (intOf x).toNat)
 case atStart=>exact ⟨0,a,b,S2,by go_num,rfl,rfl,by omega,HAB,HS2,HG2,HK2⟩
 case round =>
  clear HAB HS2 HG2 HK2;obtain ⟨j,a,b,S',rfl,rfl,rfl,hj,HAB,HS,HG,HK⟩:=hrel;by_cases hin:k+j < n
  ·obtain ⟨t,ht⟩:∃ t,ts[k+j]? = some t:=⟨_,List.getElem?_eq_getElem (by rw [HN.out];exact hin)⟩;have h1:=HAB.out;rw [textV_some (by omega) (show ts[(((k+j:Nat)):Int).toNat]? = some t from ht)] at h1;injection h1 with h1
   simp at h1
   obtain ⟨rfl,rfl⟩:=h1;have htz:=HZ.out t (List.mem_of_getElem? ht);obtain ⟨B,hB⟩:∃ B,beginsN (txt t) (txt p)=B:=⟨_,rfl⟩;have HB:=Lib.hid (show beginsN (txt t) (txt p)=B∧B=decide (k≤k+j∧k+j < k+C) from ⟨hB,by rw [← hB];exact HIN.out _ t ht⟩);clear ht hB;go_wp2_with fail;refine (hasprefix_any t p wr htz hp).mono ?_;rw [HB.out.1];rintro e w3 ⟨rfl,rfl⟩
   cases B with
   | true =>
     have hjC:j < C:=by have:=of_decide_eq_true HB.out.2.symm;omega
     go_wp2_with fail;refine (stext_any _ wr HS.out (by omega)).mono ?_;obtain ⟨a2,b2,hab⟩:=textV_form ts ((k:Int)+1+(j:Int)+1 - 1);have HAB2:=Lib.hid (show textV ts ((k+(j+1):Nat):Int)=.tuple #[.string a2,.bool b2] from by rw [← hab];congr 1;omega);rw [hab];rintro e w4 ⟨rfl,S2,hs2,hg2,hk2⟩;have HS2:=Lib.hid hs2;have HG2:=Lib.hid (show Grow w S S2 from fun x hx=>(hg2 x hx).elim (HG.out x) (fun h=>.inr (Nat.le_trans HK.out.size h)));have HK2:=Lib.hid (HK.out.trans' hk2 (fun x hx=>HG.out x hx));clear hab hs2 hg2 hk2;go_wp2_with fail;exact ⟨⟨j+1,a2,b2,S2,by go_num,rfl,rfl,by omega,HAB2,HS2,HG2,HK2⟩,by simp [intOf];omega⟩
   | false =>
     have hjC:j=C:=by have:=of_decide_eq_false HB.out.2.symm;omega
     subst hjC;go_wp2_with fail;go_ret2;exact ⟨by go_num,S',HS.out,HG.out,HK.out⟩
  ·have hjC:j=C:=by omega
   subst hjC;have h1:=HAB.out;rw [textV_none (.inr (by rw [HN.out];omega))] at h1;injection h1 with h1
   simp at h1
   obtain ⟨rfl,rfl⟩:=h1;go_wp2_with fail;go_ret2;exact ⟨by go_num,S',HS.out,HG.out,HK.out⟩
end
end Go.Proofs.YtanacapkfllbnaaGreatDoor
namespace Go.Proofs.YtanacapkfllbnaaGreatDoor
open Go.RowKit

def RdrM (w:World) (B rp:Nat) (rest:List Int) (bad:Bool):Prop:=∃ (A:Option Addr) (n c:Nat),Blk w rp 98 [.slice A n c,.bool bad]∧Rd w B A (rest.map (.int .u8))∧rest.length=n∧n≤c∧B≤rp
theorem cutR {w:World} {B:Nat} {A:Option Addr} {xs:List Value} {k n c:Nat} (h:Rd w B A xs) (hl:xs.length=n) (hc:n≤c):Rd w B (if c=k then A else A.map fun x=>x.add k) (xs.drop k):=by
 by_cases he:c=k
 ·rw [List.drop_of_length_le (by omega)];exact Rd.nil _ _ _
 ·rw [if_neg he];rcases A with _ | a
  ·rcases xs with _ | ⟨x,m⟩
   ·rw [List.drop_nil];exact Rd.nil _ _ _
   ·obtain ⟨_,e,_⟩:=h 0 _ rfl
    cases e
  ·exact h.drop k
def takeF (N:Nat) (k:Int):Bool:=decide (k < 0 ∨ (N:Int) < k)
def takeN (N:Nat) (k:Int):Nat:=if takeF N k then 0 else k.toNat
theorem stake_any (B rp N:Nat) (k:Int) (rest:List Int) (bad:Bool) (w:World) (h:RdrM w B rp rest bad) (hN:rest.length=N) :
  Calls Tryz.prog 101 #[.pointer (some ⟨rp,0,none⟩),.int .i64 k] w fun e w'=>(∃ A':Option Addr,e=.returned (.slice A' (takeN N k) (takeN N k))∧Rd w' B A' ((rest.take (takeN N k)).map (.int .u8)))∧RdrM w' B rp (rest.drop (takeN N k)) (bad || takeF N k)∧Kp [rp] w w':=by
 obtain ⟨A,n,c,hblk,hrd,hl,hnc,hB⟩:=h;obtain rfl:n=N:=by rw [← hl,hN]
 have hc0:w.cell? ⟨rp,0,none⟩=some (.slice A n c):=by rw [hblk.cell];rfl
 have hc1:w.cell? ⟨rp,1,none⟩=some (.bool bad):=by rw [hblk.cell];rfl
 have hf0:=hblk.free 0;have hf1:=hblk.free 1;have HBK:=Lib.hid hblk;have HRD:=Lib.hid hrd;have HLN:=Lib.hid hl
 cases hF:takeF n k with
 | false =>
   unfold takeF at hF;have hF':=of_decide_eq_false hF;obtain ⟨j,rfl⟩:∃ j:Nat,k=(j:Int):=⟨k.toNat,by omega⟩;have HTN:=Lib.hid (show takeN n (j:Int)=j from by unfold takeN takeF;rw [if_neg (by rw [hF];simp)];rfl);have hjn:j≤n:=by omega
   have hjc:j≤c:=by omega
   have hj1:decide ((j:Int) < 0)=false:=decide_eq_false (by omega);have hj2:decide (n < j)=false:=decide_eq_false (by omega);have hj3:decide ((n:Int) < (j:Int))=false:=decide_eq_false (by omega);rw [HTN.out];clear hblk hrd hl hF hF' hN;have hks:∀ u,Kp [rp] w (w.setCell ⟨rp,0,none⟩ u):=fun u=>(Kp.refl _ _).setCell (.inl (by simp)) _
   have HRT:=Lib.hid (show Rd w B A ((rest.take j).map (.int .u8)) from by rw [List.map_take];exact HRD.out.take j)
   have HRX:=Lib.hid (show ∀ (A':Option Addr) (u:Value) (l:List Int),Rd w B A' (l.map (.int .u8))→Rd (w.setCell ⟨rp,0,none⟩ u) B A' (l.map (.int .u8)) from fun A' u l h=>by
    intro i x hx;obtain ⟨ad,e,hb,hc⟩:=h i x hx
    exact ⟨ad,e,hb,(hks u).cell hc (fun hm=>by rw [addr_add_block] at hm;have:=List.mem_singleton.1 hm;omega)⟩)
   have HKS:=Lib.hid hks;clear hks;by_cases hck:c=j
   ·subst hck;obtain rfl:n=c:=by omega
    have HEND:=Lib.hid (show RdrM (w.setCell ⟨rp,0,none⟩ (.slice A 0 0)) B rp (rest.drop n) bad from ⟨A,0,0,HBK.out.set_ 0 _,by rw [List.drop_of_length_le (by rw [HLN.out];exact Nat.le_refl _)];exact Rd.nil _ _ _,by rw [List.length_drop,HLN.out];omega,Nat.le_refl _,hB⟩)
    go_enter Tryz.func101,Tryz.ntmps101
    go_wp2_with fail;go_ret;exact ⟨⟨A,rfl,HRX.out _ _ _ HRT.out⟩,by rw [Bool.or_false];exact HEND.out,HKS.out _⟩
   ·have HEND:=Lib.hid (show RdrM (w.setCell ⟨rp,0,none⟩ (.slice (A.map fun x=>x.add j) (n - j) (c - j))) B rp (rest.drop j) bad from ⟨A.map fun x=>x.add j,n - j,c - j,HBK.out.set_ 0 _,HRX.out _ _ _ (by
      have h1:=cutR (k:=j) HRD.out (by rw [List.length_map,HLN.out]) hnc;rw [if_neg hck] at h1;rw [List.map_drop]
      exact h1),by rw [List.length_drop,HLN.out],by omega,hB⟩)
    go_enter Tryz.func101,Tryz.ntmps101
    go_wp2_with fail;go_ret;exact ⟨⟨A,rfl,HRX.out _ _ _ HRT.out⟩,by rw [Bool.or_false];exact HEND.out,HKS.out _⟩
 | true =>
   have hF':k < 0 ∨ (n:Int) < k:=by unfold takeF at hF;exact of_decide_eq_true hF
   have HTN:=Lib.hid (show takeN n k=0 from by unfold takeN;rw [if_pos hF]);rw [HTN.out];have hb1:=hblk.set_ 1 (.bool true);have hc01:(w.setCell ⟨rp,1,none⟩ (.bool true)).cell? ⟨rp,0,none⟩=some (.slice A n c):=by rw [hb1.cell];rfl
   have hf01:=hb1.free 0;have HEND:=Lib.hid (show Blk ((w.setCell ⟨rp,1,none⟩ (.bool true)).setCell ⟨rp,0,none⟩ (.slice A n c)) rp 98 [.slice A n c,.bool true] from hb1.set_ 0 (.slice A n c));have HKS:=Lib.hid (show Kp [rp] w ((w.setCell ⟨rp,1,none⟩ (.bool true)).setCell ⟨rp,0,none⟩ (.slice A n c)) from ((Kp.refl [rp] w).setCell (.inl (by simp)) _).setCell (.inl (by simp)) _)
   have HRX:=Lib.hid (show Rd ((w.setCell ⟨rp,1,none⟩ (.bool true)).setCell ⟨rp,0,none⟩ (.slice A n c)) B A (rest.map (.int .u8)) from by
    intro i x hx;obtain ⟨ad,e,hb,hc⟩:=HRD.out i x hx
    exact ⟨ad,e,hb,HKS.out.cell hc (fun hm=>by rw [addr_add_block] at hm;have:=List.mem_singleton.1 hm;omega)⟩)
   clear hblk hrd hl hF hN hb1;by_cases hk0:k < 0
   ·have hkd:decide (k < 0)=true:=by simpa using hk0
    clear hF'
    go_enter Tryz.func101,Tryz.ntmps101
    go_wp2_with fail;go_ret;exact ⟨⟨A,rfl,Rd.nil _ _ _⟩,by first | exact ⟨A,n,c,HEND.out,HRX.out,HLN.out,hnc,hB⟩ | (rw [Bool.or_true,List.drop_zero];exact ⟨A,n,c,HEND.out,HRX.out,HLN.out,hnc,hB⟩),HKS.out⟩
   ·have hkd:decide (k < 0)=false:=by simpa using hk0
    have hkn:(n:Int) < k:=by omega
    have hkd2:decide ((n:Int) < k)=true:=by simpa using hkn
    clear hF'
    go_enter Tryz.func101,Tryz.ntmps101
    go_wp2_with fail;go_ret;exact ⟨⟨A,rfl,Rd.nil _ _ _⟩,by first | exact ⟨A,n,c,HEND.out,HRX.out,HLN.out,hnc,hB⟩ | (rw [Bool.or_true,List.drop_zero];exact ⟨A,n,c,HEND.out,HRX.out,HLN.out,hnc,hB⟩),HKS.out⟩
theorem or_hiS (a b k:Nat) (ha:a * 2 ^ k < 2 ^ 62) (hb:b < 2 ^ k) (hk:k≤62):bits .or .i64 ((a * 2 ^ k:Nat):Int) (b:Int)=((a * 2 ^ k+b:Nat):Int):=by
 have hb':b < 2 ^ 62:=Nat.lt_of_lt_of_le hb (Nat.pow_le_pow_right (by omega) hk);have:=(bits_nat .i64 62 (by decide) (fun n h0 h1=>by rw [IntKind.wrap_i64];omega) (a * 2 ^ k) b ha hb').2;rw [this,Nat.mul_comm,← Nat.two_pow_add_eq_or_of_lt hb]
def numB (l:List Int):Int:=l.foldl (fun n c=>n * 256+c) 0
theorem numB_snoc (l:List Int) (x:Int):numB (l ++ [x])=numB l * 256+x:=by unfold numB;rw [List.foldl_append];rfl
theorem snumber_any (B rp N:Nat) (rest:List Int) (bad:Bool) (w:World) (h:RdrM w B rp rest bad) (hN:rest.length=N) (hv:∀ x ∈ rest,0≤x∧x≤255) :
  Calls Tryz.prog 98 #[.pointer (some ⟨rp,0,none⟩)] w fun e w'=>e=.returned (.int .i64 (numB (rest.take (takeN N 4))))∧RdrM w' B rp (rest.drop (takeN N 4)) (bad || takeF N 4)∧Kp [rp] w w':=by
 obtain ⟨M,hM⟩:∃ M,takeN N 4=M:=⟨_,rfl⟩;have hM4:M≤4:=by rw [← hM];unfold takeN;split <;> omega
 have hMN:M≤N:=by
  rw [← hM];unfold takeN
  split
  ·omega
  ·rename_i h1
   unfold takeF at h1
   simp at h1
   omega
 have H:=Lib.hid h;have HN:=Lib.hid hN;have HV:=Lib.hid hv;have HM:=Lib.hid hM;rw [hM];obtain ⟨l,hl⟩:∃ l,rest.take M=l:=⟨_,rfl⟩;have HLL:=Lib.hid (show l.length=M from by rw [← hl,List.length_take,HN.out];omega);have HLV:=Lib.hid (show ∀ x ∈ l,0≤x∧x≤255 from fun x hx=>HV.out x (List.mem_of_mem_take (by rw [hl];exact hx)));have HLE:=Lib.hid hl;rw [hl];clear h hN hv hM hl
 go_enter Tryz.func98,Tryz.ntmps98
 go_wp2_with fail;refine (stake_any B rp N 4 rest bad w H.out HN.out).mono ?_;rw [HM.out,HLE.out];rintro e w1 ⟨⟨A,rfl,hr⟩,hrd,hk1⟩;have HR:=Lib.hid hr;have HRD:=Lib.hid hrd;have HK:=Lib.hid hk1;clear hr hrd hk1;go_wp2_with fail
 go_loopw [2,8] (fun v x wr=>∃ (k:Nat) (V:Nat),x=.int .i64 (k:Int)∧v=.int .i64 (V:Int)∧k≤M∧Hid (V < 256 ^ k)∧Hid ((V:Int)=numB (l.take k))∧w1=wr) (fun _ x _=>M - (intOf x).toNat)
 case atStart=>exact ⟨0,0,rfl,rfl,by omega,Lib.hid (by decide),Lib.hid (by simp [numB]),rfl⟩
 case round =>
  obtain ⟨k,V,rfl,rfl,hk,HVL,HVE,rfl⟩:=hrel;by_cases hlt:k < M
  ·obtain ⟨y,hy⟩:∃ y,l[k]? = some y:=⟨_,List.getElem?_eq_getElem (by rw [HLL.out];exact hlt)⟩;obtain ⟨ad,rfl,_,hcy⟩:=HR.out.at_ (i:=k) (u:=.int .u8 y) (by rw [List.getElem?_map,hy];rfl);have hyv:=HLV.out y (List.mem_of_getElem? hy);have hb0:(0:Int)≤(k:Int):=by omega
   have hb1:(k:Int) < (M:Int):=by omega
   have hV3:V≤16777215:=by
    have h1:=HVL.out;have h2:256 ^ k≤256 ^ 3:=Nat.pow_le_pow_right (by omega) (by omega);have h3:(256:Nat) ^ 3=16777216:=by decide
    omega
   obtain ⟨Y,rfl⟩:∃ Y:Nat,y=(Y:Int):=⟨y.toNat,by omega⟩;obtain ⟨Z,hZ⟩:∃ Z,Z=V * 256+Y:=⟨_,rfl⟩
   have hor:bits .or .i64 ((V:Int) * 256) (Y:Int)=(Z:Int):=by
    have h1:=or_hiS V Y 8 (by omega) (by omega) (by omega);rw [hZ,show ((V:Int) * 256)=((V * 2 ^ 8:Nat):Int) by omega,h1]
   have HZL:=Lib.hid (show Z < 256 ^ (k+1) from by
    have h1:=HVL.out;rw [hZ,Nat.pow_succ]
    omega)
   have HZE:=Lib.hid (show (Z:Int)=numB (l.take (k+1)) from by
    rw [List.take_add_one,hy]
    show _=numB (l.take k ++ [(Y:Int)])
    rw [numB_snoc,← HVE.out,hZ]
    omega)
   clear hZ hy;go_wp2_with fail;exact ⟨⟨k+1,Z,by go_num,rfl,by omega,HZL,HZE,trivial⟩,by simp [intOf];omega⟩
  ·obtain rfl:k=M:=by omega
   have HVE2:=Lib.hid (show (V:Int)=numB l from by have h1:=HVE.out;rwa [List.take_of_length_le (by rw [HLL.out];exact Nat.le_refl _)] at h1);go_wp2_with fail;go_ret;exact ⟨by rw [HVE2.out];rfl,HRD.out,HK.out⟩
def numA (l:List Int) (a:Nat):Int:=if l.length < a+4 then -1 else numB ((l.drop a).take 4)
theorem rnumber13_any (A:Option Addr) (n c B a:Nat) (l:List Int) (w:World) (hx:Rd w B A (l.map (.int .u8))) (hn:l.length=n) (ha:a≤1000000000) (hv:∀ x ∈ l,0≤x∧x≤255) :
  Calls Tryz.prog 104 #[.slice A n c,.int .i64 (a:Int)] w fun e w'=>e=.returned (.int .i64 (numA l a))∧Dr w w':=by
 by_cases hs:n < a+4
 ·have HA:=Lib.hid (show numA l a=-1 from by unfold numA;rw [if_pos (by omega)]);have hd:decide ((n:Int) < (a:Int)+4)=true:=decide_eq_true (by omega);have hd2:(n:Int) < (a:Int)+4:=by omega
  rw [HA.out];clear hx hv hn
  go_enter Tryz.func104,Tryz.ntmps104
  go_wp2_with fail;go_ret;exact ⟨rfl,Dr.refl w⟩
 ·have hd:decide ((n:Int) < (a:Int)+4)=false:=decide_eq_false (by omega);have hd2:¬ ((n:Int) < (a:Int)+4):=by omega
  obtain ⟨x0,h0⟩:∃ x,l[a]? = some x:=⟨_,List.getElem?_eq_getElem (by omega)⟩;obtain ⟨x1,h1⟩:∃ x,l[a+1]? = some x:=⟨_,List.getElem?_eq_getElem (by omega)⟩;obtain ⟨x2,h2⟩:∃ x,l[a+2]? = some x:=⟨_,List.getElem?_eq_getElem (by omega)⟩;obtain ⟨x3,h3⟩:∃ x,l[a+3]? = some x:=⟨_,List.getElem?_eq_getElem (by omega)⟩;have v0:=hv _ (List.mem_of_getElem? h0);have v1:=hv _ (List.mem_of_getElem? h1);have v2:=hv _ (List.mem_of_getElem? h2);have v3:=hv _ (List.mem_of_getElem? h3)
  have HA:=Lib.hid (show numA l a=x0 * 16777216+x1 * 65536+x2 * 256+x3 from by
   unfold numA;rw [if_neg (by omega)]
   have e:(l.drop a).take 4=[x0,x1,x2,x3]:=by
    apply List.ext_getElem?
    intro i;rw [List.getElem?_take];by_cases hi:i < 4
    ·rw [if_pos hi,List.getElem?_drop];rcases (show i=0 ∨ i=1 ∨ i=2 ∨ i=3 by omega) with rfl | rfl | rfl | rfl
     ·exact h0
     ·exact h1
     ·exact h2
     ·exact h3
    ·rw [if_neg hi,List.getElem?_eq_none (by simp;omega)]
   rw [e];unfold numB;simp only [List.foldl_cons,List.foldl_nil]
   omega)
  obtain ⟨ad,rfl,_,c0⟩:=hx.at_ (i:=a) (u:=.int .u8 x0) (by rw [List.getElem?_map,h0];rfl);obtain ⟨ad1,e1,_,c1⟩:=hx.at_ (i:=a+1) (u:=.int .u8 x1) (by rw [List.getElem?_map,h1];rfl);obtain ⟨ad2,e2,_,c2⟩:=hx.at_ (i:=a+2) (u:=.int .u8 x2) (by rw [List.getElem?_map,h2];rfl);obtain ⟨ad3,e3,_,c3⟩:=hx.at_ (i:=a+3) (u:=.int .u8 x3) (by rw [List.getElem?_map,h3];rfl);injection e1 with e1
  injection e2 with e2
  injection e3 with e3
  subst e1 e2 e3;have d1:w.cell? ⟨ad.block,ad.off+(a+1),none⟩=some (.int .u8 x1):=c1;have d2:w.cell? ⟨ad.block,ad.off+(a+2),none⟩=some (.int .u8 x2):=c2;have d3:w.cell? ⟨ad.block,ad.off+(a+3),none⟩=some (.int .u8 x3):=c3;have b0:(0:Int)≤(a:Int):=by omega
  have b1:(a:Int) < (n:Int):=by omega
  have b2:(a:Int)+1 < (n:Int):=by omega
  have b3:(a:Int)+2 < (n:Int):=by omega
  have b4:(a:Int)+3 < (n:Int):=by omega
  rw [HA.out];clear hx hv hn h0 h1 h2 h3 c1 c2 c3
  go_enter Tryz.func104,Tryz.ntmps104
  go_wp2_with fail
  go_quiet (fail)
  go_wp2_with fail;go_ret;exact ⟨by first | rfl | (congr 2;omega),(Dr.refl w).drewN _⟩
end Go.Proofs.YtanacapkfllbnaaGreatDoor
