/-
  THE LAWS' LENT TEXTS: a list of texts lent with marks behind it; are they kept.
  THE LAWS' LENT TEXTS, second part: LentTexts, KeptTexts.
  THE LAWS' LENT TEXTS: written over.
  CONDITIONS: as each lemma says.
-/
import Derived.Test.YtanacapkfllbnaaGreatDoorR37
import Derived.Test.YtanacapkfllbnaaGreatDoorR07
import Derived.Test.YtanacapkfllbnaaGreatDoorR11
import Derived.Test.YtanacapkfllbnaaGreatDoorR39
set_option maxRecDepth 100000
set_option maxHeartbeats 4000000
namespace Go.Proofs.YtanacapkfllbnaaGreatDoor
open Go.RowKit

def mkT (i:Nat):ByteArray:=strN [35,1,0,0,47,i,0,0]
def marksT (n:Nat):List ByteArray:=(List.range n).map mkT
theorem marksT_succ (n:Nat):marksT (n+1)=marksT n ++ [mkT n]:=by simp [marksT,List.range_succ]
theorem marksT_len (n:Nat):(marksT n).length=n:=by simp [marksT]
theorem marksT_get (n i:Nat) (h:i < n):(marksT n)[i]? = some (mkT i):=by simp [marksT,h]
theorem Tryz.info_astr:(Tryz.prog.info? 9).map (fun i=>(i.zero,i.size,i.bytes))=some (some (.string ⟨#[]⟩),1,16):=by kernel_rfl
theorem markT_any (i:Nat) (z:Int) (w:World) (hz:z=(i:Int)) (hi:i < 12):Calls Tryz.prog 39 #[.int .i64 1,.int .i64 z] w fun e w'=>e=.returned (.string (mkT i))∧Kp [] w w':=by
 have hcv:=run_strN (w.alloc (.cells #[.int .u8 35,.int .u8 1,.int .u8 0,.int .u8 0,.int .u8 47,.int .u8 z,.int .u8 0,.int .u8 0] 5)) (some ⟨w.heap.size,0,none⟩) 8 8 _ [35,1,0,0,47,i,0,0] rfl (by intro x hx;simp at hx;omega) (by
  have:=Rd.new w #[.int .u8 35,.int .u8 1,.int .u8 0,.int .u8 0,.int .u8 47,.int .u8 z,.int .u8 0,.int .u8 0] 5 (0,0);rw [hz] at this ⊢
  exact this)
 rw [show strN [35,1,0,0,47,i,0,0]=mkT i from rfl] at hcv;rcases (show i=0 ∨ i=1 ∨ i=2 ∨ i=3 ∨ i=4 ∨ i=5 ∨ i=6 ∨ i=7 ∨ i=8 ∨ i=9 ∨ i=10 ∨ i=11 by omega) with h | h | h | h | h | h | h | h | h | h | h | h
 all_goals
  rw [h] at hz
  simp at hz
  have HI:=Lib.hid h;clear h hi;subst hz
  go_enter Tryz.func39,Tryz.ntmps39
  go_wp2_with fail

  go_ret;exact ⟨rfl,(Kp.refl _ _).alloc _⟩
theorem lentT (A:Option Addr) (n c B:Nat) (ss:List ByteArray) (w:World) (hx:Rd w B A (ss.map .string)) (hn:ss.length=n) (hb:n≤1000000000) :
  Calls Tryz.prog 15 #[.slice A n c] w fun e w'=>e=.returned (.slice (some ⟨w.heap.size,0,none⟩) n (n+12))∧Kp [] w w'∧Blk w' w.heap.size 9 ((ss ++ marksT 12).map .string):=by
 obtain ⟨i0,hi,hz0,hz1,hz2⟩:=info_parts Tryz.info_astr;have HN:=Lib.hid hn;clear hn;have HX:=Lib.hid hx;clear hx
 go_enter Tryz.func15,Tryz.ntmps15
 go_wp2_with (first | (at_make;refine wpList_make_own _ rfl _ _ 22 rfl w.heap.size 9 i0 (.string ⟨#[]⟩) 1 Tryz.underlying22 hi hz0 hz1 .i64 .i64 _ (n+12) rfl rfl (by simp) (by rw [hz2];omega) (by unfold maxLen;omega) (Nat.le_refl _) ?_;intro w1 hown1 hgrow1) | (at_builtin;refine wpList_append_fits_rd rfl (.tmp 9) (.tmp 10) 22 rfl w.heap.size 9 i0 1 Tryz.underlying22 hi hz1 (by omega) w.heap.size 0 (n+12) [] rfl hown1 B A n c (ss.map .string) rfl (by simpa using HN.out) (HX.out.kp0 ((Kp.refl [] w).grown hgrow1 (by simp))) (by intro u hu;obtain ⟨x,_,rfl⟩:=List.mem_map.1 hu;rfl) (by omega) ?_;intro w2 hown2 hgrow2;simp only [Nat.zero_add,List.nil_append] at hown2))
 have HO2:=Lib.hid hown2;have HK2:=Lib.hid (((Kp.refl [] w).grown hgrow1 (by simp)).trans' ((Kp.refl [w.heap.size] w1).grown hgrow2 (by simp)) (by simp):Kp [] w w2);clear hown1 hown2 hgrow1 hgrow2
 go_loopw [3,4] (fun s i wr=>∃ k:Nat,k≤12∧i=.int .i64 k∧s=.slice (some ⟨w.heap.size,0,none⟩) (n+k) (n+12)∧Hid (wr.ownsRow w.heap.size 9 1 (.slice (some ⟨w.heap.size,0,none⟩) (n+k) (n+12)) (n+k) ((ss ++ marksT k).map .string))∧Hid (Kp [] w wr)) (fun _ i _=>12 - (intOf i).toNat)
 case atStart=>exact ⟨0,by omega,rfl,rfl,Lib.hid (by simpa [marksT] using HO2.out),HK2⟩
 case round =>
  clear HO2 HK2;obtain ⟨k,hk,rfl,rfl,HO,HK⟩:=hrel;by_cases hlt:k < 12
  ·go_wp2_with fail;refine (markT_any k (k:Int) wr rfl hlt).mono ?_;rintro e w3 ⟨rfl,hk3⟩;have HO3:=Lib.hid (own_kp0 HO.out hk3);have HK3:=Lib.hid (HK.out.trans hk3);clear hk3 HO HK
   go_wp2_with (at_builtin;refine wpList_append_fits _ rfl (.tmp 16) (.tmp 19) 22 rfl w.heap.size 9 i0 1 Tryz.underlying22 hi hz1 w.heap.size (n+k) (n+12) _ rfl (HO3.out.alloc _) ⟨w3.heap.size,0,none⟩ 1 1 [.string (mkT k)] rfl rfl (cell_one_new _ _ _) (by intro u hu;simp at hu;subst hu;rfl) (by omega) ?_;intro w4 hown4 hgrow4;have HO4:=Lib.hid hown4;have HK4:=Lib.hid ((HK3.out.alloc _).grown hgrow4 (by simp));clear hown4 hgrow4)
   exact ⟨⟨k+1,by omega,by go_num,rfl,Lib.hid (by rw [marksT_succ,← List.append_assoc,List.map_append];exact HO4.out),HK4⟩,by simp [intOf];omega⟩
  ·obtain rfl:k=12:=by omega
   go_wp2_with fail;go_ret;exact ⟨rfl,HK.out,own_full HO.out⟩
theorem keptT (A A':Option Addr) (n c c' B B':Nat) (ss:List ByteArray) (w:World) (hy:Rd w B A ((ss ++ marksT 12).map .string)) (hx:Rd w B' A' (ss.map .string)) (hn:ss.length=n) (hb:n≤1000000000) (hc:n+12≤c) :
  Calls Tryz.prog 17 #[.slice A n c,.slice A' n c'] w fun e w'=>e=.returned (.bool true)∧Kp [] w w':=by
 have HN:=Lib.hid hn;clear hn;have HX:=Lib.hid hx;clear hx;have HY:=Lib.hid hy;clear hy
 go_enter Tryz.func17,Tryz.ntmps17
 go_wp2_with fail
 go_loopw [6] (fun i wr=>∃ k:Nat,k≤n+12∧i=.int .i64 k∧Hid (Kp [] w wr)) (fun i _=>n+12 - (intOf i).toNat)
 case atStart=>exact ⟨0,by omega,rfl,Lib.hid (Kp.refl _ w)⟩
 case round =>
  obtain ⟨k,hk,rfl,HK⟩:=hrel;by_cases hlt:k < n+12
  ·obtain ⟨y,ad,hyk,rfl,_,hcy⟩:=(HY.out.kp0 HK.out).str (k:=k) (by rw [List.length_append,marksT_len,HN.out];omega);have hb0:(0:Int)≤(k:Int):=by omega
   by_cases hkn:k < n
   ·obtain ⟨x,bd,hxk,rfl,_,hcx⟩:=(HX.out.kp0 HK.out).str (k:=k) (by rw [HN.out];exact hkn)
    have he:y=x:=by
     rw [List.getElem?_append_left (by rw [HN.out];exact hkn),hxk] at hyk;exact (Option.some.inj hyk).symm
    subst he;have hb1:(k:Int) < (n:Int):=by omega
    have hd2:decide (n≤k)=false:=by simp;omega
    clear hxk hyk;go_wp2_with fail
    go_quiet (fail)
    have HK2:=Lib.hid (HK.out.drewN nq);clear hcx hcy HK;go_wp2_with fail;exact ⟨⟨k+1,by omega,by go_num,HK2⟩,by simp [intOf];omega⟩
   ·obtain ⟨j,hj⟩:∃ j,k=n+j:=⟨k - n,by omega⟩
    have he:y=mkT j:=by
     rw [List.getElem?_append_right (by rw [HN.out];omega),HN.out,show k - n=j by omega,marksT_get _ _ (by omega)] at hyk;exact (Option.some.inj hyk).symm
    subst he;have hj12:j < 12:=by omega
    have hd1:decide ((k:Int) < (n:Int))=false:=by simp;omega
    have hd2:decide (n≤k)=true:=by simp;omega
    have hb1:(k:Int) < ((n+12:Nat):Int):=by omega
    have HJ:=Lib.hid (show (k:Int) - (n:Int)=(j:Int) by omega);clear hyk hj;go_wp2_with fail;refine wp_region_facts (by kernel_rfl) 58 [23,24,25,26,27,28,29,30,31,32,33,34,35,36,37,38,39,40,41,42,43,44,45,46,47,48,49,50,51,52,53,54,55,56,57] [[],[],[24],[23,25],[26],[27],[27],[28,29,27],[30,27],[27],[27],[32,33,27],[34,27],[31,35,27],[36,27],[27,37],[38],[39],[39],[41,39],[40,42,39],[43,39],[44],[44],[45,46,44],[47,44],[44],[44],[50,44],[49,51,44],[52,44],[48,53,44],[54,44],[44,55,39],[39,56]] (by kernel_rfl) (by kernel_rfl) rfl (factOf [(23,.eq (.int .i64 (k:Int))),(24,.eq (.slice A' n c')),(25,.eq (.int .i64 (n:Int))),(26,.eq (.bool false)),(27,.eq (.bool false)),(28,.eq (undef)),(29,.eq (undef)),(30,.eq (undef)),(31,.eq (undef)),(32,.eq (undef)),(33,.eq (undef)),(34,.eq (undef)),(35,.eq (undef)),(36,.eq (undef)),(37,.eq (undef)),(38,.eq (.bool false)),(39,.eq (.bool false)),(40,.eq (.int .i64 (k:Int))),(41,.eq (.slice A' n c')),(42,.eq (.int .i64 (n:Int))),(43,.eq (.bool true)),(44,.eq (.bool true)),(45,.eq (.slice (some ad) (n+12) c)),(46,.eq (.int .i64 (k:Int))),(47,.eq (.pointer (some (ad.add k)))),(48,.eq (.string (mkT j))),(49,.eq (.int .i64 (k:Int))),(50,.eq (.slice A' n c')),(51,.eq (.int .i64 (n:Int))),(52,.eq (.int .i64 (j:Int))),(53,.eq (.string (mkT j))),(54,.eq (.bool true)),(55,.eq (.bool false)),(56,.eq (.bool false)),(57,.eq (.bool false))]) (factOf_stable _) _ (fun x=>by simp only [fillL,Nat.reduceAdd,Nat.reduceEqDiff,↓reduceIte];rfl) ?_ ?_
    ·refine ⟨?_,?_,?_,?_,?_,?_,?_,?_,?_,?_,?_,?_,?_,?_,?_,?_,?_,?_,?_,?_,?_,?_,?_,?_,?_,?_,?_,?_,?_,?_,?_,?_,?_,?_,?_,trivial⟩
     ·intro fx w' fa hk hd ev;have e6:fa.tmps[6]?.getD undef=.int .i64 (k:Int):=ev.old 6 rfl;refine stepF_un rfl (fun K hK=>?_);exact stepF_val _ hK (run_move rfl e6 _) rfl
     ·intro fx w' fa hk hd ev;have e1:fa.tmps[1]?.getD undef=.slice A' n c':=ev.old 1 rfl;refine stepF_un rfl (fun K hK=>?_);exact stepF_val _ hK (run_move rfl e1 _) rfl
     ·intro fx w' fa hk hd ev;have e24:=(ev.new 24 rfl).trans (show fx 24=.slice A' n c' from hd.1);refine stepF_un rfl (fun K hK=>?_);go_simp;exact hK _ _ rfl (Kp.refl _ _)
     ·intro fx w' fa hk hd ev;have e23:=(ev.new 23 rfl).trans (show fx 23=.int .i64 (k:Int) from hd.1);have e25:=(ev.new 25 rfl).trans (show fx 25=.int .i64 (n:Int) from hd.2.1);refine stepF_un rfl (fun K hK=>?_);go_simp;exact hK _ _ rfl (Kp.refl _ _)
     ·intro fx w' fa hk hd ev;have e26:=(ev.new 26 rfl).trans (show fx 26=.bool false from hd.1);refine stepF_un rfl (fun K hK=>?_);exact stepF_val _ hK (run_move rfl e26 _) rfl
     ·intro fx w' fa hk hd ev;have e27:=(ev.new 27 rfl).trans (show fx 27=.bool false from hd.1);refine stepF_no (i:=4) (g:=27) (b:=true) rfl rfl rfl e27 rfl
     ·intro fx w' fa hk hd ev;have e27:=(ev.new 27 rfl).trans (show fx 27=.bool false from hd.1);refine stepF_no (i:=4) (g:=27) (b:=true) rfl rfl rfl e27 rfl
     ·intro fx w' fa hk hd ev;have e27:=(ev.new 27 rfl).trans (show fx 27=.bool false from hd.2.2.1);refine stepF_no (i:=4) (g:=27) (b:=true) rfl rfl rfl e27 rfl
     ·intro fx w' fa hk hd ev;have e27:=(ev.new 27 rfl).trans (show fx 27=.bool false from hd.2.1);refine stepF_no (i:=4) (g:=27) (b:=true) rfl rfl rfl e27 rfl
     ·intro fx w' fa hk hd ev;have e27:=(ev.new 27 rfl).trans (show fx 27=.bool false from hd.1);refine stepF_no (i:=4) (g:=27) (b:=true) rfl rfl rfl e27 rfl
     ·intro fx w' fa hk hd ev;have e27:=(ev.new 27 rfl).trans (show fx 27=.bool false from hd.1);refine stepF_no (i:=4) (g:=27) (b:=true) rfl rfl rfl e27 rfl
     ·intro fx w' fa hk hd ev;have e27:=(ev.new 27 rfl).trans (show fx 27=.bool false from hd.2.2.1);refine stepF_no (i:=4) (g:=27) (b:=true) rfl rfl rfl e27 rfl
     ·intro fx w' fa hk hd ev;have e27:=(ev.new 27 rfl).trans (show fx 27=.bool false from hd.2.1);refine stepF_no (i:=4) (g:=27) (b:=true) rfl rfl rfl e27 rfl
     ·intro fx w' fa hk hd ev;have e27:=(ev.new 27 rfl).trans (show fx 27=.bool false from hd.2.2.1);refine stepF_no (i:=4) (g:=27) (b:=true) rfl rfl rfl e27 rfl
     ·intro fx w' fa hk hd ev;have e27:=(ev.new 27 rfl).trans (show fx 27=.bool false from hd.2.1);refine stepF_no (i:=4) (g:=27) (b:=true) rfl rfl rfl e27 rfl
     ·intro fx w' fa hk hd ev;have e27:=(ev.new 27 rfl).trans (show fx 27=.bool false from hd.1);have e37:=(ev.new 37 rfl).trans (show fx 37=undef from hd.2.1);refine stepF_un rfl (fun K hK=>?_);go_simp;exact hK _ _ rfl (Kp.refl _ _)
     ·intro fx w' fa hk hd ev;have e38:=(ev.new 38 rfl).trans (show fx 38=.bool false from hd.1);refine stepF_un rfl (fun K hK=>?_);exact stepF_val _ hK (run_move rfl e38 _) rfl
     ·intro fx w' fa hk hd ev;have e39:=(ev.new 39 rfl).trans (show fx 39=.bool false from hd.1);have e6:fa.tmps[6]?.getD undef=.int .i64 (k:Int):=ev.old 6 rfl;refine stepF_yes (i:=16) (g:=39) (b:=false) rfl rfl rfl e39 (fun K hK=>?_);exact stepF_val _ hK (run_move rfl e6 _) rfl
     ·intro fx w' fa hk hd ev;have e39:=(ev.new 39 rfl).trans (show fx 39=.bool false from hd.1);have e1:fa.tmps[1]?.getD undef=.slice A' n c':=ev.old 1 rfl;refine stepF_yes (i:=16) (g:=39) (b:=false) rfl rfl rfl e39 (fun K hK=>?_);exact stepF_val _ hK (run_move rfl e1 _) rfl
     ·intro fx w' fa hk hd ev;have e41:=(ev.new 41 rfl).trans (show fx 41=.slice A' n c' from hd.1);have e39:=(ev.new 39 rfl).trans (show fx 39=.bool false from hd.2.1);refine stepF_yes (i:=16) (g:=39) (b:=false) rfl rfl rfl e39 (fun K hK=>?_);go_simp;exact hK _ _ rfl (Kp.refl _ _)
     ·intro fx w' fa hk hd ev;have e40:=(ev.new 40 rfl).trans (show fx 40=.int .i64 (k:Int) from hd.1);have e42:=(ev.new 42 rfl).trans (show fx 42=.int .i64 (n:Int) from hd.2.1);have e39:=(ev.new 39 rfl).trans (show fx 39=.bool false from hd.2.2.1);refine stepF_yes (i:=16) (g:=39) (b:=false) rfl rfl rfl e39 (fun K hK=>?_);go_simp;exact hK _ _ rfl (Kp.refl _ _)
     ·intro fx w' fa hk hd ev;have e43:=(ev.new 43 rfl).trans (show fx 43=.bool true from hd.1);have e39:=(ev.new 39 rfl).trans (show fx 39=.bool false from hd.2.1);refine stepF_yes (i:=16) (g:=39) (b:=false) rfl rfl rfl e39 (fun K hK=>?_);exact stepF_val _ hK (run_move rfl e43 _) rfl
     ·intro fx w' fa hk hd ev;have e44:=(ev.new 44 rfl).trans (show fx 44=.bool true from hd.1);have e5:fa.tmps[5]?.getD undef=.slice (some ad) (n+12) c:=ev.old 5 rfl;refine stepF_yes (i:=21) (g:=44) (b:=true) rfl rfl rfl e44 (fun K hK=>?_);exact stepF_val _ hK (run_move rfl e5 _) rfl
     ·intro fx w' fa hk hd ev;have e44:=(ev.new 44 rfl).trans (show fx 44=.bool true from hd.1);have e6:fa.tmps[6]?.getD undef=.int .i64 (k:Int):=ev.old 6 rfl;refine stepF_yes (i:=21) (g:=44) (b:=true) rfl rfl rfl e44 (fun K hK=>?_);exact stepF_val _ hK (run_move rfl e6 _) rfl
     ·intro fx w' fa hk hd ev;have e45:=(ev.new 45 rfl).trans (show fx 45=.slice (some ad) (n+12) c from hd.1);have e46:=(ev.new 46 rfl).trans (show fx 46=.int .i64 (k:Int) from hd.2.1);have e44:=(ev.new 44 rfl).trans (show fx 44=.bool true from hd.2.2.1);refine stepF_yes (i:=21) (g:=44) (b:=true) rfl rfl rfl e44 (fun K hK=>?_);go_simp;exact hK _ _ rfl (Kp.refl _ _)
     ·intro fx w' fa hk hd ev;have e47:=(ev.new 47 rfl).trans (show fx 47=.pointer (some (ad.add k)) from hd.1);have e44:=(ev.new 44 rfl).trans (show fx 44=.bool true from hd.2.1);refine stepF_yes (i:=21) (g:=44) (b:=true) rfl rfl rfl e44 (fun K hK=>?_);have q9:=hk.cell hcy (by simp);go_simp;exact hK _ _ rfl (Kp.refl _ _)
     ·intro fx w' fa hk hd ev;have e44:=(ev.new 44 rfl).trans (show fx 44=.bool true from hd.1);have e6:fa.tmps[6]?.getD undef=.int .i64 (k:Int):=ev.old 6 rfl;refine stepF_yes (i:=21) (g:=44) (b:=true) rfl rfl rfl e44 (fun K hK=>?_);exact stepF_val _ hK (run_move rfl e6 _) rfl
     ·intro fx w' fa hk hd ev;have e44:=(ev.new 44 rfl).trans (show fx 44=.bool true from hd.1);have e1:fa.tmps[1]?.getD undef=.slice A' n c':=ev.old 1 rfl;refine stepF_yes (i:=21) (g:=44) (b:=true) rfl rfl rfl e44 (fun K hK=>?_);exact stepF_val _ hK (run_move rfl e1 _) rfl
     ·intro fx w' fa hk hd ev;have e50:=(ev.new 50 rfl).trans (show fx 50=.slice A' n c' from hd.1);have e44:=(ev.new 44 rfl).trans (show fx 44=.bool true from hd.2.1);refine stepF_yes (i:=21) (g:=44) (b:=true) rfl rfl rfl e44 (fun K hK=>?_);go_simp;exact hK _ _ rfl (Kp.refl _ _)
     ·intro fx w' fa hk hd ev;have e49:=(ev.new 49 rfl).trans (show fx 49=.int .i64 (k:Int) from hd.1);have e51:=(ev.new 51 rfl).trans (show fx 51=.int .i64 (n:Int) from hd.2.1);have e44:=(ev.new 44 rfl).trans (show fx 44=.bool true from hd.2.2.1);refine stepF_yes (i:=21) (g:=44) (b:=true) rfl rfl rfl e44 (fun K hK=>?_);have q9:IntKind.wrap .i64 ((k:Int) - (n:Int))=j:=by rw [IntKind.wrap_i64];have:=HJ.out;omega
      go_simp;exact hK _ _ rfl (Kp.refl _ _)
     ·intro fx w' fa hk hd ev;have e52:=(ev.new 52 rfl).trans (show fx 52=.int .i64 (j:Int) from hd.1);have e44:=(ev.new 44 rfl).trans (show fx 44=.bool true from hd.2.1);refine stepF_yes (i:=21) (g:=44) (b:=true) rfl rfl rfl e44 (fun K hK=>?_);go_simp;refine (markT_any j (j:Int) w' rfl hj12).mono ?_;rintro e w2 ⟨rfl,hk2⟩;exact hK _ _ rfl hk2
     ·intro fx w' fa hk hd ev;have e48:=(ev.new 48 rfl).trans (show fx 48=.string (mkT j) from hd.1);have e53:=(ev.new 53 rfl).trans (show fx 53=.string (mkT j) from hd.2.1);have e44:=(ev.new 44 rfl).trans (show fx 44=.bool true from hd.2.2.1);refine stepF_yes (i:=21) (g:=44) (b:=true) rfl rfl rfl e44 (fun K hK=>?_);go_simp;exact hK _ _ rfl (Kp.refl _ _)
     ·intro fx w' fa hk hd ev;have e54:=(ev.new 54 rfl).trans (show fx 54=.bool true from hd.1);have e44:=(ev.new 44 rfl).trans (show fx 44=.bool true from hd.2.1);refine stepF_yes (i:=21) (g:=44) (b:=true) rfl rfl rfl e44 (fun K hK=>?_);go_simp;exact hK _ _ rfl (Kp.refl _ _)
     ·intro fx w' fa hk hd ev;have e44:=(ev.new 44 rfl).trans (show fx 44=.bool true from hd.1);have e55:=(ev.new 55 rfl).trans (show fx 55=.bool false from hd.2.1);have e39:=(ev.new 39 rfl).trans (show fx 39=.bool false from hd.2.2.1);refine stepF_yes (i:=16) (g:=39) (b:=false) rfl rfl rfl e39 (fun K hK=>?_);go_simp;exact hK _ _ rfl (Kp.refl _ _)
     ·intro fx w' fa hk hd ev;have e39:=(ev.new 39 rfl).trans (show fx 39=.bool false from hd.1);have e56:=(ev.new 56 rfl).trans (show fx 56=.bool false from hd.2.1);refine stepF_un rfl (fun K hK=>?_);go_simp;exact hK _ _ rfl (Kp.refl _ _)
    ·intro fx w' hk hd;have h57:fx 57=.bool false:=hd.2.2.2.2.2.2.2.2.2.2.2.2.2.2.2.2.2.2.2.2.2.2.2.2.2.2.2.2.2.2.2.2.2.2.1;rw [h57];have HK2:=Lib.hid (HK.out.trans hk);clear hk hd hcy HK;go_wp2_with fail;exact ⟨⟨k+1,by omega,by go_num,HK2⟩,by simp [intOf];omega⟩
  ·obtain rfl:k=n+12:=by omega
   go_wp2_with fail;go_ret;exact ⟨rfl,HK.out⟩
def mkO (i:Nat):ByteArray:=strN [35,2,0,0,47,i % 256,i / 256,i / 65536]
theorem markT2_any (i:Nat) (w:World) (hi:i≤20000):Calls Tryz.prog 39 #[.int .i64 2,.int .i64 (i:Int)] w fun e w'=>e=.returned (.string (mkO i))∧Kp [] w w':=by
 have hcv:=run_strN (w.alloc (.cells #[.int .u8 35,.int .u8 2,.int .u8 0,.int .u8 0,.int .u8 47,.int .u8 ((i:Int) % 256),.int .u8 ((i:Int) / 256),.int .u8 ((i:Int) / 65536)] 5)) (some ⟨w.heap.size,0,none⟩) 8 8 _ [35,2,0,0,47,i % 256,i / 256,i / 65536] rfl (by intro x hx;simp at hx;omega) (by
  have:=Rd.new w #[.int .u8 35,.int .u8 2,.int .u8 0,.int .u8 0,.int .u8 47,.int .u8 ((i:Int) % 256),.int .u8 ((i:Int) / 256),.int .u8 ((i:Int) / 65536)] 5 (0,0)
  exact this)
 rw [show strN [35,2,0,0,47,i % 256,i / 256,i / 65536]=mkO i from rfl] at hcv
 go_enter Tryz.func39,Tryz.ntmps39
 go_wp2_with fail;go_ret;exact ⟨rfl,(Kp.refl _ _).alloc _⟩
theorem overT (g n c:Nat) (l:List Value) (w:World) (hg:Blk w g 9 l) (hl:l.length=c) (hn:c=n+12) (hb:n≤10000) :
  Calls Tryz.prog 20 #[.slice (some ⟨g,0,none⟩) n c] w fun e w'=>e=.returned (.tuple #[])∧Kp [g] w w':=by
 have HL:=Lib.hid hl;clear hl;have HG:=Lib.hid hg;clear hg;have hcn:c≤n+12:=by omega
 have hcn2:n≤c:=by omega
 have hcb:c≤10012:=by omega
 clear hn
 go_enter Tryz.func20,Tryz.ntmps20
 go_wp2_with fail
 go_loopw [3] (fun i wr=>∃ k:Nat,k≤c∧i=.int .i64 k∧Hid (∃ l':List Value,Blk wr g 9 l'∧l'.length=c)∧Hid (Kp [g] w wr)) (fun i _=>c - (intOf i).toNat)
 case atStart=>exact ⟨0,by omega,rfl,Lib.hid ⟨l,HG.out,HL.out⟩,Lib.hid (Kp.refl _ w)⟩
 case round =>
  obtain ⟨k,hk,rfl,HB,HK⟩:=hrel;have hk0:(0:Int)≤(k:Int):=by omega
  by_cases hlt:k < c
  ·have hk1:(k:Int) < (c:Int):=by omega
   go_wp2_with fail;refine (markT2_any k wr (by omega)).mono ?_;rintro e w3 ⟨rfl,hk3⟩;obtain ⟨l',hbk,hll⟩:=HB.out;have hb3:=hbk.kp0 hk3;obtain ⟨u0,_,hcell⟩:=hb3.ix (i:=k) (by omega);have hfree:=hb3.free k;have HB3:=Lib.hid hb3;have HLL:=Lib.hid hll;have HK3:=Lib.hid (HK.out.trans hk3.nil);clear hbk hll hb3 hk3 HB HK;go_wp2_with fail;exact ⟨⟨k+1,by omega,by go_num,Lib.hid ⟨_,HB3.out.set_ k _,by rw [List.length_set];exact HLL.out⟩,Lib.hid (HK3.out.setCell (.inl (by simp)) _)⟩,by simp [intOf];omega⟩
  ·go_wp2_with fail
   go_end0
   exact ⟨rfl,HK.out⟩
end Go.Proofs.YtanacapkfllbnaaGreatDoor
