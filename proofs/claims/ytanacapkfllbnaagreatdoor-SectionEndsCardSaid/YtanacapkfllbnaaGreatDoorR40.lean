/-
  LAYER 6 (alpha): Of: the best code of texts.
  PLAIN MATHEMATICS OF LAYER 6, fourth part: the texts of a code have words; their bits, added, by any lengths.
  CONDITIONS: as each lemma says.
-/
import Derived.Test.YtanacapkfllbnaaGreatDoorR39
import Derived.Test.YtanacapkfllbnaaGreatDoorR38
import Derived.Test.YtanacapkfllbnaaGreatDoorR34
import Derived.Test.YtanacapkfllbnaaGreatDoorR16
set_option maxRecDepth 100000
set_option maxHeartbeats 4000000
namespace Go.Proofs.YtanacapkfllbnaaGreatDoor
open Go.RowKit

structure Pair (w:World) (b:Nat) (y z:Value) (m k:Nat) (v u:List Int):Prop where
 o1:w.ownsRow b 3 1 y m (v.map (.int .i64))
 o2:w.ownsRow b 3 1 z k (u.map (.int .i64))
 ne:∀ g,y.ownBlock=some g→z.ownBlock ≠ some g
section
variable {w w':World} {b m k:Nat} {y z y':Value} {v u:List Int}
theorem Pair.swap (h:Pair w b y z m k v u):Pair w b z y k m u v:=⟨h.o2,h.o1,fun g h1 h2=>h.ne g h2 h1⟩
theorem Pair.kp0 (h:Pair w b y z m k v u) (hk:Kp [] w w'):Pair w' b y z m k v u:=⟨own_kp0 h.o1 hk,own_kp0 h.o2 hk,h.ne⟩
theorem Pair.left {o:Obj} {x:Int} (h:Pair w b y z m k v u) (hown:w'.ownsRow b 3 1 y' (m+1) (v.map (.int .i64) ++ [.int .i64 x])) (hg:(w.alloc o).grownBy w' y.ownBlock) (hat:y'.ownBlock=y.ownBlock ∨ y'.ownBlock=some (w.alloc o).heap.size) :
  Pair w' b y' z (m+1) k (v ++ [x]) u:=by
 have hk:Kp (ownL y) w w':=((Kp.refl _ w).alloc o).grown hg (fun g hg=>.inl (mem_ownL.2 hg));refine ⟨by rw [List.map_append];exact hown,own_kp h.o2 hk (fun g hg hm=>h.ne g (mem_ownL.1 hm) hg),fun g h1 h2=>?_⟩;rcases hat with e | e
 ·exact h.ne g (e ▸ h1) h2
 ·rw [e] at h1;injection h1 with h1
  have:=(own_ge h.o2 h2).2
  simp at h1
  omega
theorem Pair.keep {o:Obj} {w0:World} (h:Pair w b y z m k v u) (hk:Kp [] w0 w) (hg:(w.alloc o).grownBy w' y.ownBlock) (hb:b=w0.heap.size):Kp [] w0 w':=
 (hk.alloc o).grown hg (fun g hg=>.inr (by subst hb;exact (own_ge h.o1 hg).1))
end
theorem Pair.nil (w:World) (b:Nat):Pair w b (.slice none 0 0) (.slice none 0 0) 0 0 [] []:=⟨⟨rfl,.inl ⟨rfl,rfl⟩⟩,⟨rfl,.inl ⟨rfl,rfl⟩⟩,fun g h=>by cases h⟩

def sgK (l:List Nat) (k:Nat):List Nat:=(List.range k).filter fun s=>decide (0 < l.count s)
def smK (l:List Nat) (k:Nat):List Int:=(sgK l k).map fun s=>((s:Nat):Int)
def wtK (l:List Nat) (k:Nat):List Int:=(sgK l k).map fun s=>((l.count s:Nat):Int)
def smO (l:List Nat):List Int:=smK l 257
def wtO (l:List Nat):List Int:=wtK l 257
theorem sgK_yes {l:List Nat} {k:Nat} (h:0 < l.count k):sgK l (k+1)=sgK l k ++ [k]:=by unfold sgK;rw [List.range_succ,List.filter_append,List.filter_cons,if_pos (decide_eq_true h)];rfl
theorem sgK_no {l:List Nat} {k:Nat} (h:l.count k=0):sgK l (k+1)=sgK l k:=by unfold sgK;rw [List.range_succ,List.filter_append,List.filter_cons,if_neg (by simp only [decide_eq_true_eq];omega)];simp
theorem smK_ris (l:List Nat):∀ k,k≤257→risI (-1) (smK l k)∧(smK l k).getLastD (-1) < k
 | 0,_=>⟨by simp [smK,sgK,risI],by simp [smK,sgK]⟩
 | k+1,hk=>by
   obtain ⟨h1,h2⟩:=smK_ris l k (by omega);by_cases h:0 < l.count k
   ·unfold smK at h1 h2 ⊢;rw [sgK_yes h,List.map_append];refine ⟨risI_snoc.2 ⟨h1,h2,by simp only;omega⟩,by simp;omega⟩
   ·unfold smK at h1 h2 ⊢;rw [sgK_no (by omega)];exact ⟨h1,by omega⟩
theorem wtO_ok {l:List Nat} (h0:0 ∈ l) (hb:l.length≤4294967296):okW (wtO l):=by
 unfold okW wtO wtK;refine ⟨fun x hx=>?_,?_,?_⟩
 ·obtain ⟨s,_,rfl⟩:=List.mem_map.1 hx;have:=List.count_le_length (a:=s) (l:=l);omega
 ·rw [List.length_map];have:0 ∈ sgK l 257:=List.mem_filter.2 ⟨List.mem_range.2 (by omega),by simpa using List.count_pos_iff.2 h0⟩;exact List.length_pos_of_mem this
 ·rw [List.length_map];exact Nat.le_trans (List.length_filter_le _ _) (by simp)
theorem okMake_of {l:List Nat} (h0:0 ∈ l) (hb:l.length≤4294967296):okMake (smO l) (lensL (wtO l)):=by
 have hw:=wtO_ok h0 hb;refine ⟨?_,okF_lens hw,(smK_ris l 257 (Nat.le_refl _)).1⟩;rw [lensL_len hw];unfold smO smK wtO wtK;rw [List.length_map,List.length_map]
theorem run_index_257 (cs:Array Value) (k:Nat) (v:Value) (hk:k < 257) (hv:cs[k]? = some v) (w:World):(Instr.index 103 (.agg cs) (.int .i64 (k:Int))).run Tryz.prog w=.ok v w:=by
 have hp:∀ w,(Go.part 3 cs k).run Tryz.prog w=.ok v w:=fun w=>by
  have hagg:(isAgg 3).run Tryz.prog w=.ok false w:=by kernel_rfl
  unfold Go.part
  simp [Sem.run_bind,hagg,hv]
 have hs:∀ w,(sizeOf 3).run Tryz.prog w=.ok 1 w:=fun w=>by kernel_rfl
 simp [Instr.index,asIntOf,run_underlying Tryz.underlying103,hs,hp]
 intro h9;omega
def OfP (w:World) (l:List Nat) (e:Ending) (w':World):Prop:=∃ p,e=.returned (.tuple #[.pointer (some ⟨p,0,none⟩),.int .i64 0])∧CodeM w' w.heap.size w'.heap.size p (treeC (smO l) (lensL (wtO l))) ((smO l).map Int.toNat) (lensL (wtO l))∧Kp [] w w'
theorem aof_any (A:Option Addr) (n c B:Nat) (ss:List ByteArray) (w:World) (hx:Rd w B A (ss.map .string)) (hn:ss.length=n) (h1:1≤n) (hb:(symL ss).length≤4294967296) (hB:B≤w.heap.size) :
  Calls Tryz.prog 32 #[.slice A n c] w (OfP w (symL ss)):=by
 obtain ⟨i0,hi,hz0,hz1,hz2⟩:=info_parts Tryz.info_aint;obtain ⟨l,hl⟩:∃ l,l=symL ss:=⟨_,rfl⟩
 have h0:0 ∈ l:=by
  match ss,hn with
  | [],hn=>simp at hn;omega
  | s :: t,_=>rw [hl,symL_cons];unfold symT;simp
 have HC:=Lib.hid (counted_any A n c B ss w hx hn (by omega) hB);rw [← hl] at HC hb ⊢;have HOK:=Lib.hid (okMake_of h0 hb);have HW:=Lib.hid (wtO_ok h0 hb);have HCB:=Lib.hid (show ∀ k,l.count k≤4294967296 from fun k=>Nat.le_trans (List.count_le_length) hb);have hn0:((n:Int) == 0)=false:=by simp;omega
 clear hx hn hl h0 hb hB h1
 go_enter Tryz.func32,Tryz.ntmps32
 go_wp2_with fail;refine HC.out.mono ?_;rintro e w1 ⟨rfl,hk1⟩;have HK1:=Lib.hid hk1;clear hk1 HC;obtain ⟨cs,hcs⟩:∃ cs,cs=(cntV l).toArray:=⟨_,rfl⟩;rw [← hcs];have HIX:=Lib.hid (show ∀ k:Nat,k < 257→∀ w,(Instr.index 103 (.agg cs) (.int .i64 (k:Int))).run Tryz.prog w=.ok (.int .i64 ((l.count k:Nat):Int)) w from fun k hk w=>run_index_257 cs k _ hk (by rw [hcs];simpa using cntV_get l hk) w);clear hcs;go_wp2_with fail
 go_loopw [4,5,15] (fun y z x wr=>∃ (k m c1 c2:Nat) (A1 A2:Option Addr),x=.int .i64 (k:Int)∧y=.slice A1 m c1∧z=.slice A2 m c2∧k≤257∧m≤k∧Hid ((sgK l k).length=m)∧Hid (Pair wr w1.heap.size (.slice A1 m c1) (.slice A2 m c2) m m (smK l k) (wtK l k))∧Hid (Kp [] w1 wr)) (fun _ _ x _=>257 - (intOf x).toNat)
 case atStart=>exact ⟨0,0,0,0,none,none,rfl,rfl,rfl,by omega,by omega,Lib.hid rfl,Lib.hid (Pair.nil _ _),Lib.hid (Kp.refl _ _)⟩
 case round =>
  obtain ⟨k,m,c1,c2,A1,A2,rfl,rfl,rfl,hk,hmk,HM,HP,HK⟩:=hrel;by_cases hlt:k < 257
  ·have hix:=HIX.out k hlt;have hcb:=HCB.out k;have hk0:(0:Int)≤(k:Int):=by omega
   obtain ⟨z,hz⟩:∃ z,z=l.count k:=⟨_,rfl⟩;rw [← hz] at hix hcb;have HZ:=Lib.hid hz;clear hz;by_cases hz0':0 < z
   ·have hzd:decide ((0:Int) < (z:Int))=true:=by simp;omega
    have HSZ:=Lib.hid HK.out.size;have HS1:=Lib.hid (show sgK l (k+1)=sgK l k ++ [k] from sgK_yes (by rw [← HZ.out];exact hz0'))
    go_wp2_with (first
     | (at_builtin;refine wpList_append_rd rfl (.tmp 21) (.tmp 23) 81 rfl w1.heap.size 3 i0 (.int .i64 0) 1 8 Tryz.underlying81 hi hz0 hz1 hz2 rfl (by decide) (.slice A1 m c1) m _ rfl (own_kp0 HP.out.o1 ((Kp.refl [] _).alloc _)) _ _ 1 1 [.int .i64 (k:Int)] rfl rfl (Rd.new wr #[.int .i64 (k:Int)] 3 (0,0)) (by intro u hu;simp at hu;subst hu;rfl) (by unfold maxLen;omega) (by omega) (by have:=HSZ.out;simp;omega) ?_;intro v2 w2 hown2 hgrow2 hat2
        obtain ⟨A3,c3,rfl,_⟩:=own_form hown2;have HP2:=Lib.hid (HP.out.left hown2 hgrow2 hat2).swap;have HK2:=Lib.hid (HP.out.keep HK.out hgrow2 rfl);have HSZ2:=Lib.hid HK2.out.size
        clear hown2 hgrow2 hat2 HP HK)
     | (at_builtin;refine wpList_append_rd rfl (.tmp 25) (.tmp 27) 81 rfl w1.heap.size 3 i0 (.int .i64 0) 1 8 Tryz.underlying81 hi hz0 hz1 hz2 rfl (by decide) (.slice A2 m c2) m _ rfl (own_kp0 HP2.out.o1 ((Kp.refl [] _).alloc _)) _ _ 1 1 [.int .i64 (z:Int)] rfl rfl (Rd.new w2 #[.int .i64 (z:Int)] 3 (0,0)) (by intro u hu;simp at hu;subst hu;rfl) (by unfold maxLen;omega) (by omega) (by have:=HSZ2.out;simp;omega) ?_;intro v3 w3 hown3 hgrow3 hat3
        obtain ⟨A4,c4,rfl,_⟩:=own_form hown3;have HP3:=Lib.hid (HP2.out.left hown3 hgrow3 hat3).swap;have HK3:=Lib.hid (HP2.out.keep HK2.out hgrow3 rfl)
        clear hown3 hgrow3 hat3 HP2 HK2))
    exact ⟨⟨k+1,m+1,c3,c4,A3,A4,by go_num,rfl,rfl,by omega,by omega,Lib.hid (by rw [HS1.out,List.length_append,HM.out];rfl),Lib.hid (by unfold smK wtK;rw [HS1.out,List.map_append,List.map_append];rw [HZ.out] at HP3;exact HP3.out),HK3⟩,by simp [intOf];omega⟩
   ·obtain rfl:z=0:=by omega
    have HS1:=Lib.hid (show sgK l (k+1)=sgK l k from sgK_no HZ.out.symm);clear hz0';go_wp2_with fail;exact ⟨⟨k+1,m,c1,c2,A1,A2,by go_num,rfl,rfl,by omega,by omega,Lib.hid (by rw [HS1.out];exact HM.out),Lib.hid (by unfold smK wtK;rw [HS1.out];exact HP.out),HK⟩,by simp [intOf];omega⟩
  ·obtain rfl:k=257:=by omega
   have HMS:=Lib.hid (show (smO l).length=m∧(wtO l).length=m from ⟨by unfold smO smK;rw [List.length_map,HM.out],by unfold wtO wtK;rw [List.length_map,HM.out]⟩);have HX1:=Lib.hid (show Rd wr wr.heap.size A1 ((smO l).map (.int .i64)) from own_rd HP.out.o1);have HX2:=Lib.hid (show Rd wr wr.heap.size A2 ((wtO l).map (.int .i64)) from own_rd HP.out.o2);have HKW:=Lib.hid (HK1.out.trans HK.out);clear HP HK HM HIX HCB HK1 hlt hk;go_wp2_with fail;refine (tlengths_any A2 m c2 _ (wtO l) wr HX2.out HMS.out.2 (by omega)).mono ?_;rintro e w3 ⟨A5,m5,c5,hm5,rfl,hown5,hk5⟩;rw [lensE_ok HW.out];have HL5:=Lib.hid (show (lensL (wtO l)).length=m5 from hm5.symm);have hm57:m5≤257:=by rw [hm5];exact lensL_le _
   have HX5:=Lib.hid (own_rd hown5);have HX15:=Lib.hid (HX1.out.kp0 hk5);have HZ5:=Lib.hid (show wr.heap.size≤w3.heap.size from hk5.size);have HK5:=Lib.hid (HKW.out.trans hk5);clear hk5 hown5 hm5 HX1 HX2;go_wp2_with fail;refine (amake_any A1 A5 m m5 c1 c5 _ _ (smO l) (lensL (wtO l)) w3 HX15.out HX5.out HMS.out.1 HL5.out (by omega) (by omega) HZ5.out (Nat.le_refl _)).mono ?_;rintro e w4 ⟨hyes,_,hk4⟩;obtain ⟨p,rfl,hcode⟩:=hyes HOK.out;have HF:=Lib.hid (show OfP w l (.returned (.tuple #[.pointer (some ⟨p,0,none⟩),.int .i64 0])) w4 from ⟨p,rfl,hcode.low HK5.out.size,HK5.out.trans hk4⟩);clear hyes hk4 hcode;go_wp2_with fail;go_ret2;exact HF.out
end Go.Proofs.YtanacapkfllbnaaGreatDoor
namespace Go.Proofs.YtanacapkfllbnaaGreatDoor

theorem toNat_smO (l:List Nat):(smO l).map Int.toNat=sgK l 257:=by
 unfold smO smK;rw [List.map_map];exact (List.map_congr_left (fun s _=>by simp)).trans (List.map_id _)
theorem mem_sgK {l:List Nat} {s:Nat} (h:s ∈ l) (hs:s < 257):s ∈ sgK l 257:=by
 unfold sgK;exact List.mem_filter.2 ⟨List.mem_range.2 hs,by simpa using List.count_pos_iff.2 h⟩
theorem sgs_sym {t:ByteArray} {s:Nat}:s ∈ sgs (txt t) ↔ s ∈ symT t:=by
 unfold symT sgs;simp only [List.mem_append,List.mem_cons,List.not_mem_nil,or_false]
 exact ⟨fun h=>h.symm,fun h=>h.symm⟩
theorem enc_all {T:CT} {sg:List Nat} {ls:List Int} (h:CodeT T sg ls) {t:ByteArray} (ha:∀ s ∈ symT t,s ∈ sg):∃ r,encT T t=some r:=by
 refine enc_some (fun s hs=>?_);obtain ⟨i,hi,he⟩:=List.getElem_of_mem (ha s (sgs_sym.1 hs));obtain ⟨w,hw,_⟩:=word_at h (i:=i) (s:=s) (by rw [List.getElem?_eq_getElem hi,he]);exact ⟨w,hw⟩
end Go.Proofs.YtanacapkfllbnaaGreatDoor
