/-
  LAYER 6's REFERENCE: Make.
  CONDITIONS: lists of at most 10^9 numbers.
-/
import Derived.Test.YtanacapkfllbnaaGreatDoorR35
import Derived.Test.YtanacapkfllbnaaGreatDoorR04
import Derived.Laws.MakeOwn
set_option maxRecDepth 100000
set_option maxHeartbeats 4000000
namespace Go.Proofs.YtanacapkfllbnaaGreatDoor
open Go.RowKit

def SFact.newv (B n:Nat) (xs:List Value):SFact:=⟨fun v w=>∃ (ad:Addr) (c:Nat),v=.slice (some ad) n c∧n≤c∧B≤ad.block∧ad.block < w.heap.size∧Rd w w.heap.size (some ad) xs,fun _ _ _ h hk=>by
 obtain ⟨ad,c,h1,h2,h3,h4,h5⟩:=h
 exact ⟨ad,c,h1,h2,h3,Nat.lt_of_lt_of_le h4 hk.size,(h5.kp0 hk).bound hk.size⟩⟩
def SFact.newr (B n:Nat) (xs:List Value):SFact:=⟨fun v w=>∃ (ad:Addr) (c:Nat),(SFact.vals 1 [.slice (some ad) n c]).p v w∧n≤c∧B≤ad.block∧ad.block < w.heap.size∧Rd w w.heap.size (some ad) xs,fun _ _ _ h hk=>by
 obtain ⟨ad,c,h1,h2,h3,h4,h5⟩:=h
 exact ⟨ad,c,(SFact.vals 1 _).st _ _ _ h1 hk,h2,h3,Nat.lt_of_lt_of_le h4 hk.size,(h5.kp0 hk).bound hk.size⟩⟩
def AppW (w0:World) (base:Nat) (e:TypeId) (k:Nat) (old:Value) (l:List Value) (n:Nat) (xs:List Value) (v:Value) (w:World):Prop:=
 ∃ (ad:Addr) (c:Nat),AppP w0 base e 1 (k+1) old (l ++ [.slice (some ad) n c]) v w∧n≤c∧w0.heap.size≤ad.block∧ad.block < w.heap.size∧ad.block ∉ ownL v∧Rd w w.heap.size (some ad) xs
theorem AppW.st {w0:World} {base:Nat} {e:TypeId} {k:Nat} {old:Value} {l:List Value} {n:Nat} {xs:List Value}:∀ (v:Value) (w1 w2:World),AppW w0 base e k old l n xs v w1→Kp [] w1 w2→AppW w0 base e k old l n xs v w2:=fun v w1 w2 h hk=>by
 obtain ⟨ad,c,h1,h2,h3,h4,h6,h5⟩:=h;exact ⟨ad,c,AppP.st v w1 w2 h1 hk,h2,h3,Nat.lt_of_lt_of_le h4 hk.size,h6,(h5.kp0 hk).bound hk.size⟩
theorem wp_append_w {P:Program} {o:Oper} {a:Act} {K:Act→World→Prop} {w0 w:World} (s x:Nat) (t:TypeId)
  (ho:o.op=.call { callee:=.builtin .append,args:=#[.tmp s,.tmp x],argTypes:=#[t,t] })
  (base:Nat) (e:TypeId) (i:TypeInfo) (z:Value) (bytes:Nat) (ht:P.underlying t=some (.slice e)) (hi:P.info? e=some i) (hz:i.zero=some z) (hsize:i.size=1) (hby:i.bytes=bytes) (hzs:z.cells.size=1)
  (v:Value) (k:Nat) (l:List Value) (hs:a.tmps[s]?.getD undef=v) (hown:w0.ownsRow base e 1 v k l) (hk:Kp [] w0 w)
  (n:Nat) (xs:List Value) (hx:(SFact.newr w0.heap.size n xs).p (a.tmps[x]?.getD undef) w)
  (h63:k+1≤maxLen) (hbytes:(k+1) * bytes≤140737488355328) (hbase:base≤w0.heap.size)
  (hK:∀ v' w',AppW w0 base e k v l n xs v' w'→K (a.put o.dst v') w'):o.wp P a w K (fun _ _ _=>False):=by
 obtain ⟨ad,c,⟨A,c9,h1,h2,h3⟩,h4,h5,h6,h7⟩:=hx;refine wp_append_rd (.tmp s) (.tmp x) t ho base e i z 1 bytes ht hi hz hsize hby hzs (by decide) v k l (eval_of hs) (own_kp0 hown hk) w.heap.size A 1 c9 [.slice (some ad) n c] (eval_of h1) rfl h3 (by intro u hu;simp at hu;subst hu;rfl) h63 hbytes (Nat.le_trans hbase hk.size) (fun v' w' g1 g2 g3=>?_);obtain ⟨A',c',rfl,_⟩:=own_form g1;have hkk:Kp (ownL v) w w':=(Kp.refl _ w).grown g2 (fun x hx=>.inl (mem_ownL.2 hx))
 have hne:ad.block ∉ ownL (.slice A' (k+1) c'):=fun hm=>by
  rw [mem_ownL] at hm;rcases g3 with g3 | g3
  ·rw [g3] at hm;have:=(own_ge hown hm).2;omega
  ·rw [g3] at hm;injection hm with hm
   omega
 refine hK _ _ ⟨ad,c,⟨A',c',rfl,g1,hk.nil.trans hkk,fun x hx=>?_⟩,h4,h5,Nat.lt_of_lt_of_le h6 hkk.size,hne,?_⟩
 ·rw [mem_ownL] at hx;rcases g3 with g3 | g3
  ·rw [g3] at hx;exact .inl (mem_ownL.2 hx)
  ·rw [g3] at hx;injection hx with hx
   subst hx;exact .inr hk.size
 ·exact (h7.kp_ne hkk (fun a ha hm=>by
   injection ha with ha
   subst ha;have:=(own_ge hown (mem_ownL.1 hm)).2
   omega)).bound hkk.size
theorem rep_cells (n:Nat):madeCells (Value.bool false).cells n=(List.replicate n (Value.bool false)).toArray:=by
 apply Array.ext'
 simp only [madeCells,Array.toList_map,Array.toList_range]
 rw [show (Value.bool false).cells=#[Value.bool false] from rfl]
 apply List.ext_getElem?
 intro i;by_cases hi:i < n
 ·rw [List.getElem?_map,List.getElem?_range hi,List.getElem?_replicate,if_pos hi]
  simp [Nat.mod_one]
 ·rw [List.getElem?_eq_none (by simp;omega),List.getElem?_eq_none (by simp;omega)]
theorem run_make_bools (n:Nat) (hn:n≤1000000) (w:World):(Instr.makeSlice 80 (.int .i64 (n:Int)) (.int .i64 (n:Int))).run Tryz.prog w=.ok (.slice (some ⟨w.heap.size,0,none⟩) n n) (w.alloc (.cells (List.replicate n (.bool false)).toArray 4)):=by
 obtain ⟨i0,hi0,hz0,hz1,hz2⟩:=info_parts Tryz.info_abool;have hr:=run_make (P:=Tryz.prog) w 80 4 i0 _ Tryz.underlying80 hi0 hz0 .i64 .i64 n n (by omega) (by omega) (by rw [hz2];omega) (by omega);simp only [Int.toNat_natCast] at hr
 rw [hr,hz1,Nat.mul_one,rep_cells]
theorem rmake_no1 (A A':Option Addr) (n m c c':Nat) (w:World) (hnm:n ≠ m):Calls Tryz.prog 89 #[.slice A n c,.slice A' m c'] w fun e w'=>e=.returned (.tuple #[.pointer none,.int .i64 2])∧Kp [] w w':=by
 have hd:((n:Int) != (m:Int))=true:=by simp;omega
 clear hnm
 go_enter Tryz.func89,Tryz.ntmps89
 go_wp2_with fail;go_ret2;exact ⟨rfl,Kp.refl _ _⟩
open Classical in
theorem rmake_no2 (A A':Option Addr) (n c c' B':Nat) (lens:List Int) (w:World) (hy:Rd w B' A' (lens.map (.int .i64))) (hm:lens.length=n) (hb:n≤1000000000) (hr:∀ x ∈ lens,x≤9223372036854775807) (hf:¬ okF lens):Calls Tryz.prog 89 #[.slice A n c,.slice A' n c'] w fun e w'=>e=.returned (.tuple #[.pointer none,.int .i64 2])∧Kp [] w w':=by
 have HF:=Lib.hid (show decide (okF lens)=false from decide_eq_false hf);have HY:=Lib.hid hy;have HM:=Lib.hid hm;have HRG:=Lib.hid hr;clear hf hy hm hr
 go_enter Tryz.func89,Tryz.ntmps89
 go_wp2_with fail;refine (rfits_any A' n c' B' lens w HY.out HM.out hb HRG.out).mono ?_;rw [HF.out];rintro e w1 ⟨rfl,hk1⟩;have HK1:=Lib.hid hk1;clear hk1;go_wp2_with fail;go_ret2;exact ⟨rfl,HK1.out⟩
def RSt (lo p:Nat) (s2 s3:Value) (ws:List (List Bool)) (k:Nat) (w4 w:World) (A5:Option Addr) (c5:Nat) (l:List Value):Prop:=
 Blk w p 84 [s2,s3,.slice A5 k c5]∧w.ownsRow (p+1) 80 1 (.slice A5 k c5) k l∧WRow w (fun g=>lo≤g∧g ≠ p∧g ∉ ownL (.slice A5 k c5)) w.heap.size (ws.take k) l∧Kp [p] w4 w∧lo≤p∧w4.heap.size=p+1
theorem RSt.step {lo p k c5:Nat} {s2 s3 v:Value} {ws:List (List Bool)} {w4 w w':World} {A5:Option Addr} {l:List Value} {u:List Bool} (h:RSt lo p s2 s3 ws k w4 w A5 c5 l) (hu:ws[k]? = some u) (hP:AppW w (p+1) 80 k (.slice A5 k c5) l u.length (u.map .bool) v w') :
  ∃ (A7:Option Addr) (c7:Nat) (l7:List Value),v=.slice A7 (k+1) c7∧RSt lo p s2 s3 ws (k+1) w4 (w'.setCell ⟨p,2,none⟩ (.slice A7 (k+1) c7)) A7 c7 l7∧w'.cell? ⟨p,2,none⟩=some (.slice A5 k c5)∧w'.frozen? ⟨p,2,none⟩=false:=by
 obtain ⟨hb,ho,hw,hk,hlo,hp⟩:=h;obtain ⟨a9,c9,⟨A7,c7,rfl,hown7,hk7,hn7⟩,q1,q2,q3,q5,q4⟩:=hP;have hp5:p ∉ ownL (.slice A5 k c5):=fun hm=>by have:=(own_ge ho (mem_ownL.1 hm)).1;omega
 have hp7:p ∉ ownL (.slice A7 (k+1) c7):=fun hm=>by have:=(own_ge hown7 (mem_ownL.1 hm)).1;omega
 have hb7:Blk w' p 84 [s2,s3,.slice A5 k c5]:=hb.kp hk7 hp5;have hsz:p+1≤w.heap.size:=hb.lt;have hks:Kp [p] w' (w'.setCell ⟨p,2,none⟩ (.slice A7 (k+1) c7)):=(Kp.refl _ _).setCell (.inl (by simp)) _;have hsize:(w'.setCell ⟨p,2,none⟩ (.slice A7 (k+1) c7)).heap.size=w'.heap.size:=by simp
 refine ⟨A7,c7,_,rfl,⟨hb7.set_ 2 _,own_kp hown7 hks (fun g hg hm=>?_),?_,?_,hlo,hp⟩,?_,hb7.free 2⟩
 ·rw [List.mem_singleton] at hm;subst hm;exact hp7 (mem_ownL.2 hg)
 ·rw [take_snoc_ hu,hsize];refine WRow.kp (WRow.snoc ((hw.kp hk7 (fun g hg=>.inl (fun hh=>hh.2.2 hg))).mono (fun g hg h9=>⟨h9.1,h9.2.1,fun hm=>?_⟩) hk7.size) q1 ⟨by omega,by omega,q5⟩ q3 q4) hks (fun g hg=>.inl (fun hh=>hh.2.1 (List.mem_singleton.1 hg)));rcases hn7 g hm with h | h
  ·exact h9.2.2 h
  ·omega
 ·refine Kp.trans (hk.trans' hk7 (fun x hx=>.inr ?_)) (hks);have:=(own_ge ho (mem_ownL.1 hx)).1;omega
 ·rw [hb7.cell];rfl
theorem RSt.start {w:World} {lo:Nat} {s2 s3:Value} {ws:List (List Bool)} (h:lo≤w.heap.size):RSt lo w.heap.size s2 s3 ws 0 (w.alloc (.cells #[s2,s3,.slice none 0 0] 84)) (w.alloc (.cells #[s2,s3,.slice none 0 0] 84)) none 0 []:=
 ⟨Blk.new w _ [s2,s3,.slice none 0 0],World.ownsRow_nil _ _ _ 1,by rw [List.take_zero];exact WRow.nil _ _ _,Kp.refl _ _,h,by simp⟩
theorem words_at {T:CT} {sg:List Nat} {ls:List Int} (h:CodeT T sg ls) {k:Nat} (hk:k < ls.length):∃ (u:List Bool) (m:Nat),(wordsT T)[k]? = some u∧u.length=m∧ls[k]? = some (m:Int):=by
 have h1:=h.2.1;have hk':k < (T.al []).length:=by rw [← h1,List.length_map] at hk;exact hk
 refine ⟨((T.al [])[k]).2,_,?_,rfl,?_⟩
 ·unfold wordsT;rw [List.getElem?_map,List.getElem?_eq_getElem hk'];rfl
 ·rw [← h1,List.getElem?_map,List.getElem?_eq_getElem hk'];rfl
theorem RSt.done {lo p n c2 c3 c5:Nat} {a2 a3:Addr} {T:CT} {sg:List Nat} {ls:List Int} {w4 w:World} {A5:Option Addr} {l:List Value} (h:RSt lo p (.slice (some a2) n c2) (.slice (some a3) n c3) (wordsT T) n w4 w A5 c5 l) (hc:CodeT T sg ls) (hn:ls.length=n) (hn1:1≤n)
  (h2:Rd w4 p (some a2) (sg.map fun (x:Nat)=>.int .i64 (x:Int))) (h3:Rd w4 p (some a3) (ls.map (.int .i64))) (l2:lo≤a2.block) (l3:lo≤a3.block) (b2:a2.block < p) (b3:a3.block < p) (e2:n≤c2) (e3:n≤c3):RCode w lo w.heap.size p T sg ls:=by
 obtain ⟨hb,ho,hw,hk,hlo,hp⟩:=h;have e:sg.length=n:=by rw [← hn,← hc.1,← hc.2.1,List.length_map,List.length_map]
 obtain ⟨A,c,e5,h5,_,h6,h7⟩:=own_form ho;injection e5 with e5 _ e6
 subst e5 e6
 cases A5 with
 | none=>have:=(h6 rfl).1;omega
 | some a5 =>
   refine ⟨hc,hlo,hb.lt,a2,a3,a5,c2,c3,c5,l,by rw [e,hn];exact hb,by rw [e];exact e2,by rw [hn];exact e3,by rw [e];exact h5,l2,l3,by have:=(h7 a5 rfl).2.2.1;omega,?_,?_,own_rd ho,?_⟩
   ·exact (h2.kp_ne hk (fun a ha hm=>by injection ha with ha;subst ha;rw [List.mem_singleton] at hm;omega)).bound (by have:=hk.size;omega)
   ·exact (h3.kp_ne hk (fun a ha hm=>by injection ha with ha;subst ha;rw [List.mem_singleton] at hm;omega)).bound (by have:=hk.size;omega)
   ·have hl:(wordsT T).length=n:=by unfold wordsT;rw [List.length_map,← hn,← hc.2.1,List.length_map]
    rw [List.take_of_length_le (by omega)] at hw;exact hw.mono (fun g _ h=>h.1) (Nat.le_refl _)
theorem rd_made (w:World) (m:Nat):Rd (w.alloc (.cells (List.replicate m (Value.bool false)).toArray 4)) (w.alloc (.cells (List.replicate m (Value.bool false)).toArray 4)).heap.size (some ⟨w.heap.size,0,none⟩) (List.replicate m (.bool false)):=by
 have h9:=Rd.new w (List.replicate m (Value.bool false)).toArray 4 (0,0);rw [List.toList_toArray] at h9;exact h9.bound (by simp)
theorem newv_of {w1:World} {B m c':Nat} {A':Option Addr} {u:List Bool} (h:Rd w1 w1.heap.size A' (u.map .bool)) (hm:u.length=m) (h1:1≤m) (hc:m≤c') (hb:∀ ad,A'=some ad→B≤ad.block):(SFact.newv B m (u.map .bool)).p (.slice A' m c') w1:=by
 obtain ⟨ad,e,q,_⟩:=h.lt (fun h=>by have:=congrArg List.length h;rw [List.length_map,hm] at this;simp at this;omega);subst e;exact ⟨ad,c',rfl,hc,hb ad rfl,q,h⟩
def RMakeP (w:World) (sm lens:List Int) (e:Ending) (w':World):Prop:=
 (okMake sm lens→∃ p,e=.returned (.tuple #[.pointer (some ⟨p,0,none⟩),.int .i64 0])∧RCode w' w.heap.size w'.heap.size p (treeC sm lens) (sm.map Int.toNat) lens)∧(¬ okMake sm lens→e=.returned (.tuple #[.pointer none,.int .i64 2]))∧Kp [] w w'
theorem RMakeP.no {w w':World} {s l:List Int} (h:¬ okMake s l) (hk:Kp [] w w'):RMakeP w s l (.returned (.tuple #[.pointer none,.int .i64 2])) w':=⟨fun h'=>absurd h' h,fun _=>rfl,hk⟩
theorem Tryz.info_rowB:(Tryz.prog.info? 80).map (fun i=>(i.zero,i.size,i.bytes))=some (some (.slice none 0 0),1,24):=by kernel_rfl
open Classical in
theorem rmake_any (A A':Option Addr) (n c c' B B':Nat) (sm lens:List Int) (w:World) (hx:Rd w B A (sm.map (.int .i64))) (hy:Rd w B' A' (lens.map (.int .i64))) (hn:sm.length=n) (hm:lens.length=n) (hb:n≤1000000000) (hr:∀ x ∈ lens,x≤9223372036854775807) (hf:okF lens) :
  Calls Tryz.prog 89 #[.slice A n c,.slice A' n c'] w (RMakeP w sm lens):=by
 obtain ⟨i0,hi0,hz0,hz1,hz2⟩:=info_parts Tryz.info_aint;obtain ⟨ir,hir,hy0,hy1,hy2⟩:=info_parts Tryz.info_rowB;have HX:=Lib.hid hx;have HY:=Lib.hid hy;have HN:=Lib.hid hn;have HM:=Lib.hid hm;have HF:=Lib.hid hf;have hn257:n≤257:=by have:=hf.1;omega
 have hn1:1≤n:=by have:=okF_pos hf;omega
 have HC:=Lib.hid (rfits_any A' n c' B' lens w hy hm hb hr);rw [decide_eq_true hf] at HC;clear hx hy hn hm hf hr
 go_enter Tryz.func89,Tryz.ntmps89
 go_wp2_with fail;refine HC.out.mono ?_;rintro e w1 ⟨rfl,hk1⟩;have HX1:=Lib.hid (HX.out.kp0 hk1);have HY1:=Lib.hid (HY.out.kp0 hk1);have HK1:=Lib.hid hk1;clear hk1 HX HY HC
 obtain ⟨ad,rfl⟩:∃ ad,A=some ad:=by
  cases A with
  | none=>have:=HN.out;rw [HX1.out.none_nil] at this;simp at this;omega
  | some ad=>exact ⟨ad,rfl⟩
 go_wp2_with fail
 go_loopw [6] (fun x wr=>∃ k:Nat,x=.int .i64 (k:Int)∧k≤n∧Hid (risI (-1) (sm.take k))∧Hid (Kp [] w1 wr)) (fun x _=>n - (intOf x).toNat)
 case atStart=>exact ⟨0,rfl,by omega,Lib.hid trivial,Lib.hid (Kp.refl _ _)⟩
 case round =>
  obtain ⟨k,rfl,hk,HRI,HK⟩:=hrel;by_cases hlt:k < n
  ·have hkd:decide ((k:Int) < (n:Int))=true:=by simp;omega
   have hk0:(0:Int)≤(k:Int):=by omega
   have hkn:(k:Int) < (n:Int):=by omega
   obtain ⟨x,ad1,hxk,e1,_,hcx⟩:=(HX1.out.kp0 HK.out).ix (i:=k) (by rw [HN.out];exact hlt);injection e1 with e1
   subst e1;obtain ⟨kp,hkp⟩:∃ kp,kp=k - 1:=⟨_,rfl⟩;obtain ⟨xp,ad1,hxp,e1,_,hcp⟩:=(HX1.out.kp0 HK.out).ix (i:=kp) (by rw [HN.out];omega);injection e1 with e1
   subst e1;have HXK:=Lib.hid hxk;have HT:=Lib.hid (show sm.take (k+1)=sm.take k ++ [x] from take_snoc_ hxk)
   have HLD:=Lib.hid (show (sm.take k).getLastD (-1)=if k=0 then -1 else xp from by
    split
    ·rename_i h;subst h;simp
    ·have h9:k=kp+1:=by omega
     rw [h9,take_snoc_ hxp]
     simp)
   have HBAD:=Lib.hid (show (x < 0 ∨ 256 < x ∨ 0 < k∧x≤xp)→¬ okMake sm lens from fun hb h=>by
    have h1:=h.2.2;have e:sm=sm.take (k+1) ++ sm.drop (k+1):=(List.take_append_drop _ _).symm;rw [e] at h1;have h2:=risI_app h1;rw [HT.out,risI_snoc,HLD.out] at h2;have h3:=(risI_ge (risI_app h1) x (by rw [HT.out];simp)).1;have h4:=h2.2
    split at h4 <;> omega)
   have HGOOD:=Lib.hid (show ¬ (x < 0 ∨ 256 < x ∨ 0 < k∧x≤xp)→risI (-1) (sm.take (k+1)) from fun hb=>by
    rw [HT.out,risI_snoc];refine ⟨HRI.out,?_,by omega⟩;rw [HLD.out]
    split <;> omega)
   have hkp0:(0:Int)≤(kp:Int):=by omega
   have hkpn:(kp:Int) < (n:Int):=by omega
   have HKP:=Lib.hid hkp;clear hxk hxp hkp;by_cases hb1:x < 0
   ·have HNO:=Lib.hid (HBAD.out (.inl hb1));have d1:decide (x < 0)=true:=by simpa using hb1
    go_wp2_with fail
    go_quiet (fail)
    have HK2:=Lib.hid (HK.out.drewN nq);go_wp2_with fail;go_ret2;exact RMakeP.no HNO.out (HK1.out.trans HK2.out)
   ·have d1:decide (x < 0)=false:=by simpa using hb1
    by_cases hb2:256 < x
    ·have HNO:=Lib.hid (HBAD.out (.inr (.inl hb2)));have d2:decide (256 < x)=true:=by simpa using hb2
     go_wp2_with fail
     go_quiet (fail)
     have HK2:=Lib.hid (HK.out.drewN nq);go_wp2_with fail;go_ret2;exact RMakeP.no HNO.out (HK1.out.trans HK2.out)
    ·have d2:decide (256 < x)=false:=by simpa using hb2
     by_cases hk1:0 < k
     ·have d3:decide ((0:Int) < (k:Int))=true:=by simp;omega
      have d3':decide (0 < k)=true:=by simpa using hk1
      have hwk:IntKind.i64.wrap ((k:Int) - 1)=(kp:Int):=by rw [IntKind.wrap_i64];have:=HKP.out;omega
      by_cases hb3:x≤xp
      ·have HNO:=Lib.hid (HBAD.out (.inr (.inr ⟨hk1,hb3⟩)));have d4:decide (x≤xp)=true:=by simpa using hb3
       go_wp2_with fail
       go_quiet (fail)
       have HK2:=Lib.hid (HK.out.drewN nq);go_wp2_with fail;go_ret2;exact RMakeP.no HNO.out (HK1.out.trans HK2.out)
      ·have HGD:=Lib.hid (HGOOD.out (by omega));have d4:decide (x≤xp)=false:=by simpa using hb3
       go_wp2_with fail
       go_quiet (fail)
       have HK2:=Lib.hid (HK.out.drewN nq);go_wp2_with fail;exact ⟨⟨k+1,by go_num,by omega,HGD,HK2⟩,by simp [intOf];omega⟩
     ·have HGD:=Lib.hid (HGOOD.out (by omega));have d3:decide ((0:Int) < (k:Int))=false:=by simp;omega
      have d3':decide (0 < k)=false:=by simpa using hk1
      go_wp2_with fail
      go_quiet (fail)
      have HK2:=Lib.hid (HK.out.drewN nq);go_wp2_with fail;exact ⟨⟨k+1,by go_num,by omega,HGD,HK2⟩,by simp [intOf];omega⟩
  ·have hkd:decide ((k:Int) < (n:Int))=false:=by simp;omega
   have hkd':decide (k < n)=false:=by simp;omega
   have HOK:=Lib.hid (show okMake sm lens from ⟨by rw [HN.out,HM.out],HF.out,by have:=HRI.out;rwa [List.take_of_length_le (by rw [HN.out];omega)] at this⟩);have HCT:=Lib.hid (treeC_code HOK.out);have HKW:=Lib.hid (HK1.out.trans HK.out);have HXW:=Lib.hid (HX1.out.kp0 HK.out);have HYW:=Lib.hid (HY1.out.kp0 HK.out)
   obtain ⟨bd,rfl⟩:∃ bd,A'=some bd:=by
    cases A' with
    | none=>have:=HM.out;rw [HYW.out.none_nil] at this;simp at this;omega
    | some ad=>exact ⟨ad,rfl⟩
   obtain ⟨kk,hkk⟩:∃ kk,kk=k:=⟨_,rfl⟩;rw [← hkk] at hkd hkd' ⊢;clear HK1 HK HX1 HY1 HRI hlt hk hkk
   go_upto_region 9 with (first
    | (at_builtin;refine wpList_append_rd rfl (.tmp 53) (.tmp 54) 81 rfl wr.heap.size 3 i0 (.int .i64 0) 1 8 Tryz.underlying81 hi0 hz0 hz1 hz2 rfl (by decide) (.slice (some ⟨wr.heap.size,0,none⟩) 0 0) 0 [] rfl (own_nilA wr wr.heap.size _ 1 (Nat.le_refl _)) _ (some ad) n c (sm.map (.int .i64)) rfl (by rw [List.length_map,HN.out,Nat.mul_one]) (HXW.out.kp0 ((Kp.refl [] _).alloc _)) (oc_ints _ _) (by unfold maxLen;omega) (by omega) (by simp) ?_;intro v2 w2 hown2 hgrow2 hat2
       have hk2:Kp [] wr w2:=((Kp.refl [] _).alloc _).grown hgrow2 (fun x hx=>.inr (by simp [Value.ownBlock] at hx;omega));rw [Nat.zero_add,List.nil_append] at hown2;obtain ⟨A2,c2,rfl,_,_,hA2,hB2⟩:=own_form hown2;have HO2:=Lib.hid hown2;have HK2:=Lib.hid (HKW.out.trans hk2);have HK2R:=Lib.hid hk2.size;have HYW2:=Lib.hid (HYW.out.kp0 hk2)
       clear hown2 hgrow2 hat2 hk2 hA2 hB2)
    | (at_builtin;refine wpList_append_rd rfl (.tmp 56) (.tmp 57) 81 rfl w2.heap.size 3 i0 (.int .i64 0) 1 8 Tryz.underlying81 hi0 hz0 hz1 hz2 rfl (by decide) (.slice (some ⟨w2.heap.size,0,none⟩) 0 0) 0 [] rfl (own_nilA w2 w2.heap.size _ 1 (Nat.le_refl _)) _ (some bd) n c' (lens.map (.int .i64)) rfl (by rw [List.length_map,HM.out,Nat.mul_one]) (HYW2.out.kp0 ((Kp.refl [] _).alloc _)) (oc_ints _ _) (by unfold maxLen;omega) (by omega) (by simp) ?_;intro v3 w3 hown3 hgrow3 hat3
       have hk3:Kp [] w2 w3:=((Kp.refl [] _).alloc _).grown hgrow3 (fun x hx=>.inr (by simp [Value.ownBlock] at hx;omega));rw [Nat.zero_add,List.nil_append] at hown3;obtain ⟨A3,c3,rfl,_⟩:=own_form hown3;have HO3:=Lib.hid hown3;have HO23:=Lib.hid (own_kp0 HO2.out hk3);have HK3:=Lib.hid (HK2.out.trans hk3);have HK3R:=Lib.hid (Nat.le_trans HK2R.out hk3.size);have HYW3:=Lib.hid (HYW2.out.kp0 hk3)
       clear hown3 hgrow3 hat3 hk3))
   obtain ⟨_,_,f2,f3,_,f4,f5⟩:=own_form HO23.out;obtain ⟨_,_,g2,g3,_,g4,g5⟩:=own_form HO3.out;injection f2 with e1 _ e2
   subst e1 e2;injection g2 with e1 _ e2
   subst e1 e2
   obtain ⟨a2,rfl⟩:∃ a2,A2=some a2:=by
    cases A2 with
    | none=>have:=(f4 rfl).1;omega
    | some a=>exact ⟨a,rfl⟩
   obtain ⟨a3,rfl⟩:∃ a3,A3=some a3:=by
    cases A3 with
    | none=>have:=(g4 rfl).1;omega
    | some a=>exact ⟨a,rfl⟩
   have hw3:w.heap.size≤w3.heap.size:=HK3.out.size;have hw2:w.heap.size≤w2.heap.size:=HK2.out.size;have hwr:w.heap.size≤wr.heap.size:=HKW.out.size;have HB2:=Lib.hid (show w.heap.size≤a2.block∧a2.block < w3.heap.size from by have:=(f5 a2 rfl).2.2;omega);have HB3:=Lib.hid (show w.heap.size≤a3.block∧a3.block < w3.heap.size from by have:=(g5 a3 rfl).2.2;omega);have HS:=Lib.hid (show RSt w.heap.size w3.heap.size (.slice (some a2) n c2) (.slice (some a3) n c3) (wordsT (treeC sm lens)) 0 _ _ none 0 [] from RSt.start hw3);have HR2:=Lib.hid ((own_rd HO23.out).kp0 ((Kp.refl [] w3).alloc (.cells #[.slice (some a2) n c2,.slice (some a3) n c3,.slice none 0 0] 84)));have HR3:=Lib.hid ((own_rd HO3.out).kp0 ((Kp.refl [] w3).alloc (.cells #[.slice (some a2) n c2,.slice (some a3) n c3,.slice none 0 0] 84)));have HYP:=Lib.hid (HYW3.out.kp0 ((Kp.refl [] w3).alloc (.cells #[.slice (some a2) n c2,.slice (some a3) n c3,.slice none 0 0] 84)));have HK4:=Lib.hid (HK3.out.trans ((Kp.refl [] w3).alloc (.cells #[.slice (some a2) n c2,.slice (some a3) n c3,.slice none 0 0] 84)))
   have HBD:=Lib.hid (show bd.block < w3.heap.size from by
    obtain ⟨a,e,_,h9⟩:=HYW3.out.lt (fun h=>by have:=congrArg List.length h;rw [List.length_map,HM.out] at this;simp at this;omega);injection e with e
    subst e
    exact h9)
   have HC2:=Lib.hid f3;have HC3:=Lib.hid g3;obtain ⟨w4,hw4⟩:∃ w4,w4=w3.alloc (.cells #[.slice (some a2) n c2,.slice (some a3) n c3,.slice none 0 0] 84):=⟨_,rfl⟩;obtain ⟨p,hp⟩:∃ p,p=w3.heap.size:=⟨_,rfl⟩;have HZ4:=Lib.hid (show w4.heap.size=p+1 from by rw [hw4,hp];simp);rw [← hw4] at HS HR2 HR3 HYP HK4 ⊢;rw [← hp] at HB2 HB3 HBD HS HR3 ⊢
   replace HR2:=Lib.hid (show Rd w4 p (some a2) ((sm.map Int.toNat).map fun (x:Nat)=>.int .i64 (x:Int)) from by
    rw [hp];have h9:=(risI_nat (by omega) HOK.out.2.2).2.2
    have e9:(sm.map Int.toNat).map (fun (x:Nat)=>Value.int .i64 (x:Int))=sm.map (.int .i64):=by
     conv=>rhs;rw [← h9]
     simp only [List.map_map]
     rfl
    rw [e9]
    exact HR2.out)
   clear f3 f4 f5 g3 g4 g5 hw3 hw2 hwr hw4 hp HO2 HO3 HO23 HK2 HK2R HK3 HK3R HYW HYW2 HYW3 HKW HXW hkd hkd';go_wp2_with fail
   go_loopw [8] (fun x wr=>∃ (k c5:Nat) (A5:Option Addr) (l:List Value),x=.int .i64 (k:Int)∧k≤n∧Hid (RSt w.heap.size p (.slice (some a2) n c2) (.slice (some a3) n c3) (wordsT (treeC sm lens)) k w4 wr A5 c5 l)) (fun x _=>n - (intOf x).toNat)
   case atStart=>exact ⟨0,0,none,[],rfl,by omega,HS⟩
   case round =>
    clear HS;obtain ⟨k,c5,A5,l,rfl,hk,HS⟩:=hrel;by_cases hlt:k < n
    ·have hkd:decide ((k:Int) < (n:Int))=true:=by simp;omega
     have hkd':decide (k < n)=true:=by simp;omega
     obtain ⟨u,m,hu,hum,hlm⟩:=words_at HCT.out (k:=k) (by rw [HM.out];exact hlt);have hmr:=okF_range HF.out _ (List.mem_of_getElem? hlm);have hm1:1≤m:=by omega
     have hm2:m≤256:=by omega
     have HKP:=Lib.hid (show Kp [p] w4 wr from HS.out.2.2.2.1);obtain ⟨xm,ad1,hxm,e1,hb1,hcm⟩:=(HYP.out.kp_ne HKP.out (fun a ha hm=>by injection ha with ha;subst ha;rw [List.mem_singleton] at hm;have:=HBD.out;omega)).ix (i:=k) (by rw [HM.out];exact hlt);injection e1 with e1
     subst e1;rw [hlm] at hxm;injection hxm with hxm
     subst hxm;have HLM:=Lib.hid hlm;have HU:=Lib.hid hu;have HUM:=Lib.hid hum;have HOW:=Lib.hid (show wr.ownsRow (p+1) 80 1 (.slice A5 k c5) k l from HS.out.2.1);have hc2:wr.cell? ⟨p,2,none⟩=some (.slice A5 k c5):=by rw [HS.out.1.cell];rfl
     have HZP:=Lib.hid (show p+1≤wr.heap.size from HS.out.1.lt);clear hlm hu hum HYP HB2 HB3 HBD hmr;by_cases hk0:k=0
     ·have hke:((k:Int) == 0)=true:=by simp;omega
      have hke':decide (k=0)=true:=by simp;omega
      have hcm0:wr.cell? bd=some (.int .i64 (m:Int)):=by rw [hk0] at hcm;exact hcm
      have h0n:0 < n:=by omega
      have HUX:=Lib.hid (show List.replicate m (Value.bool false)=u.map .bool from by
       have h1:=words_first HCT.out (l0:=m) (by rw [← hk0];exact HLM.out);rw [← hk0,HU.out] at h1;injection h1 with h1
       rw [h1,List.map_replicate])
      have hmk:=fun w9=>run_make_bools m (by omega) w9
      clear hk0 hcm;go_wp2_with fail;refine wp_region_tail (by kernel_rfl) 13 105 10 79 [69,70,71,72,73,74,75,76,77,78,79,80,81] [[],[],[70],[70,71],[70,71,72],[],[74],[74,75],[74,75,76],[74,75,76,77],[70,71,72,73,74,75,76,77,78],[69],[69,80]] [69,70,71,72,73,74,75,76,80,81] [79] [.pointer (some ⟨p,0,none⟩),.pointer (some ⟨p,0,none⟩),.pointer (some ⟨p,0,none⟩),.pointer (some ⟨p,2,none⟩),.slice A5 k c5,.slice (some bd) n c',.pointer (some bd),.int .i64 (m:Int),.pointer (some ⟨p,0,none⟩),.pointer (some ⟨p,2,none⟩)] [(69,.eq (.pointer (some ⟨p,0,none⟩))),(70,.eq (.pointer (some ⟨p,0,none⟩))),(71,.eq (.pointer (some ⟨p,0,none⟩))),(72,.eq (.pointer (some ⟨p,2,none⟩))),(73,.eq (.slice A5 k c5)),(74,.eq (.slice (some bd) n c')),(75,.eq (.pointer (some bd))),(76,.eq (.int .i64 (m:Int))),(77,SFact.newv wr.heap.size m (u.map .bool)),(78,SFact.newr wr.heap.size m (u.map .bool)),(79,(⟨AppW wr (p+1) 80 k (.slice A5 k c5) l m (u.map .bool),AppW.st⟩:SFact)),(80,.eq (.pointer (some ⟨p,0,none⟩))),(81,.eq (.pointer (some ⟨p,2,none⟩)))] rfl (by kernel_rfl) (by kernel_rfl) (by kernel_rfl) rfl rfl _ (fun x=>by simp only [fillL,Nat.reduceAdd,Nat.reduceEqDiff,↓reduceIte];rfl) ?_ ?_ ?_
      ·refine ⟨?_,?_,?_,?_,?_,?_,?_,?_,?_,?_,?_,?_,?_,trivial⟩
       ·intro fx w' fa hd ev;have e7:fa.tmps[7]?.getD undef=.pointer (some ⟨p,0,none⟩):=ev.old 7 rfl;refine stepF_un rfl (fun K hK=>?_);exact stepF_val _ hK (run_move rfl e7 _) rfl
       ·intro fx w' fa hk hd ev;have e7:fa.tmps[7]?.getD undef=.pointer (some ⟨p,0,none⟩):=ev.old 7 rfl;refine stepF_un rfl (fun K hK=>?_);exact stepF_val _ hK (run_move rfl e7 _) rfl
       ·intro fx w' fa hk hd ev;have e70:=(ev.new 70 rfl).trans (show fx 70=.pointer (some ⟨p,0,none⟩) from hd.1);refine stepF_un rfl (fun K hK=>?_);go_simp;exact hK _ _ rfl (Kp.refl _ _)
       ·intro fx w' fa hk hd ev;have e71:=(ev.new 71 rfl).trans (show fx 71=.pointer (some ⟨p,0,none⟩) from hd.2.1);refine stepF_un rfl (fun K hK=>?_);go_simp;exact hK _ _ rfl (Kp.refl _ _)
       ·intro fx w' fa hk hd ev;have e72:=(ev.new 72 rfl).trans (show fx 72=.pointer (some ⟨p,2,none⟩) from hd.2.2.1);refine stepF_un rfl (fun K hK=>?_);have q9:=hk.cell hc2 (by simp);go_simp;exact hK _ _ rfl (Kp.refl _ _)
       ·intro fx w' fa hk hd ev;have e1:fa.tmps[1]?.getD undef=.slice (some bd) n c':=ev.old 1 rfl;refine stepF_un rfl (fun K hK=>?_);exact stepF_val _ hK (run_move rfl e1 _) rfl
       ·intro fx w' fa hk hd ev;have e74:=(ev.new 74 rfl).trans (show fx 74=.slice (some bd) n c' from hd.1);refine stepF_un rfl (fun K hK=>?_);go_simp;exact hK _ _ rfl (Kp.refl _ _)
       ·intro fx w' fa hk hd ev;have e75:=(ev.new 75 rfl).trans (show fx 75=.pointer (some bd) from hd.2.1);refine stepF_un rfl (fun K hK=>?_);have q9:=hk.cell hcm0 (by simp);go_simp;exact hK _ _ rfl (Kp.refl _ _)
       ·intro fx w' fa hk hd ev;have e76:=(ev.new 76 rfl).trans (show fx 76=.int .i64 (m:Int) from hd.2.2.1);refine stepF_un rfl (fun K hK=>?_);have q9:=hmk w';go_simp;exact hK _ _ ⟨_,_,rfl,Nat.le_refl _,by simpa using hk.size,by simp,by rw [← HUX.out];exact rd_made w' m⟩ ((Kp.refl _ _).alloc _)
       ·intro fx w' fa hk hd ev;have h77:(SFact.newv wr.heap.size m (u.map .bool):SFact).p (fx 77) w':=hd.2.2.2.1;obtain ⟨ad77,c77,v77,n77,b77,s77,r77⟩:=h77;have e77:fa.tmps[77]?.getD undef=.slice (some ad77) m c77:=(ev.new 77 rfl).trans v77;refine stepF_un rfl (fun K hK=>?_);go_simp;exact hK _ _ ⟨ad77,c77,vals_new w' [.slice (some ad77) m c77] 80 1,n77,b77,by simp;omega,(r77.kp0 ((Kp.refl _ w').alloc _)).bound (by simp)⟩ ((Kp.refl _ _).alloc _)
       ·exact trivial
       ·intro fx w' fa hd ev;have e69:=(ev.new 69 rfl).trans (show fx 69=.pointer (some ⟨p,0,none⟩) from hd.1);refine stepF_un rfl (fun K hK=>?_);go_simp;exact hK _ _ rfl (Kp.refl _ _)
       ·intro fx w' fa hd ev;have e80:=(ev.new 80 rfl).trans (show fx 80=.pointer (some ⟨p,0,none⟩) from hd.2.1);refine stepF_un rfl (fun K hK=>?_);go_simp;exact hK _ _ rfl (Kp.refl _ _)
      ·intro o1 ho1 fx w' fa hk hd ev K hK;obtain rfl:=Option.some.inj ho1;have e73:=(ev.new 73 rfl).trans (show fx 73=.slice A5 k c5 from hd.2.2.2.1);have h78:(SFact.newr wr.heap.size m (u.map .bool):SFact).p (fx 78) w':=hd.2.2.2.2.2.2.2.2.1;have e78:fa.tmps[78]?.getD undef=fx 78:=ev.new 78 rfl;exact wp_append_w 73 78 82 rfl (p+1) 80 ir (.slice none 0 0) 24 Tryz.underlying82 hir hy0 hy1 hy2 rfl (.slice A5 k c5) k l e73 HOW.out hk m _ (by rw [e78];exact h78) (by unfold maxLen;omega) (by omega) HZP.out hK
      ·intro fx w' hd;have h69:fx 69=.pointer (some ⟨p,0,none⟩):=hd.1;have h70:fx 70=.pointer (some ⟨p,0,none⟩):=hd.2.1;have h71:fx 71=.pointer (some ⟨p,0,none⟩):=hd.2.2.1;have h72:fx 72=.pointer (some ⟨p,2,none⟩):=hd.2.2.2.1;have h73:fx 73=.slice A5 k c5:=hd.2.2.2.2.1;have h74:fx 74=.slice (some bd) n c':=hd.2.2.2.2.2.1;have h75:fx 75=.pointer (some bd):=hd.2.2.2.2.2.2.1;have h76:fx 76=.int .i64 (m:Int):=hd.2.2.2.2.2.2.2.1;have hP:(AppW wr (p+1) 80 k (.slice A5 k c5) l m (u.map .bool)) (fx 79) w':=hd.2.2.2.2.2.2.2.2.1;have h80:fx 80=.pointer (some ⟨p,0,none⟩):=hd.2.2.2.2.2.2.2.2.2.1;have h81:fx 81=.pointer (some ⟨p,2,none⟩):=hd.2.2.2.2.2.2.2.2.2.2.1
       change Oper.wp _ _ _ _ _ _
       obtain ⟨A7,c7,l7,e79,hS7,g1,g2⟩:=HS.out.step HU.out (by rw [HUM.out];exact hP);have HS7:=Lib.hid hS7;rw [e79,h81];clear hd hS7;go_simp;go_wp2_with fail;exact ⟨⟨k+1,c7,A7,l7,by go_num,by omega,HS7⟩,by simp [intOf];omega⟩
     ·have hke:((k:Int) == 0)=false:=by simp;omega
      have hke':decide (k=0)=false:=by simp;omega
      obtain ⟨j,hj⟩:∃ j,j=k - 1:=⟨_,rfl⟩;obtain ⟨up,mp,hup,hupl,hlp⟩:=words_at HCT.out (k:=j) (by rw [HM.out];omega);have hmr:=okF_range HF.out _ (List.mem_of_getElem? hlp);have hp1:1≤mp:=by omega
      have hp2:mp≤256:=by omega
      have hjk:j+1=k:=by omega
      have HUX:=Lib.hid (show nextW up m=u from by
       have h1:=words_next HCT.out hup (m:=m) (by rw [hjk];exact HLM.out);rw [hjk,HU.out] at h1;injection h1 with h1
       exact h1.symm)
      obtain ⟨a5,rfl⟩:∃ a5,A5=some a5:=by
       obtain ⟨_,_,f2,_,_,f4,_⟩:=own_form HOW.out;injection f2 with e1 _ e2
       subst e1 e2
       cases A5 with
       | none=>have:=(f4 rfl).1;omega
       | some a=>exact ⟨a,rfl⟩
      obtain ⟨adp,cp,hl1,hl2,hl3,hl4,hl5⟩:=HS.out.2.2.1.2 j up (by rw [List.getElem?_take,if_pos (by omega)];exact hup);rw [hupl] at hl1 hl2;obtain ⟨_,e1,_,hcp⟩:=own_rd HOW.out j _ hl1;injection e1 with e1
      subst e1;have HRP:=Lib.hid hl5;have HUPL:=Lib.hid hupl;have hwk:IntKind.i64.wrap ((k:Int) - 1)=(j:Int):=by rw [IntKind.wrap_i64];omega
      have hjn:decide (j < k)=true:=by simp;omega
      have hjk2:j < k:=by omega
      clear hk0 hmr hup hupl hlp hj hjk hl1 hl2 hl3 hl4 hl5;go_wp2_with fail;refine wp_region_tail (by kernel_rfl) 22 105 19 101 [82,83,84,85,86,87,88,89,90,91,92,93,94,95,96,97,98,99,100,101,102,103] [[],[],[83],[83,84],[83,84,85],[],[87],[87,88],[87,88,89],[],[91],[87,88,89,90,91,92],[87,88,89,90,91,92,93],[],[],[95,96],[95,96,97],[87,88,89,90,91,92,93,94,95,96,97,98],[87,88,89,90,91,92,93,94,95,96,97,98,99],[83,84,85,86,87,88,89,90,91,92,93,94,95,96,97,98,99,100],[82],[82,102]] [82,83,84,85,86,87,88,89,90,91,92,93,94,95,96,97,98,102,103] [101] [.pointer (some ⟨p,0,none⟩),.pointer (some ⟨p,0,none⟩),.pointer (some ⟨p,0,none⟩),.pointer (some ⟨p,2,none⟩),.slice (some a5) k c5,.pointer (some ⟨p,0,none⟩),.pointer (some ⟨p,0,none⟩),.pointer (some ⟨p,2,none⟩),.slice (some a5) k c5,.int .i64 (k:Int),.int .i64 (j:Int),.pointer (some (a5.add j)),.slice (some adp) mp cp,.slice (some bd) n c',.int .i64 (k:Int),.pointer (some (bd.add k)),.int .i64 (m:Int),.pointer (some ⟨p,0,none⟩),.pointer (some ⟨p,2,none⟩)] [(82,.eq (.pointer (some ⟨p,0,none⟩))),(83,.eq (.pointer (some ⟨p,0,none⟩))),(84,.eq (.pointer (some ⟨p,0,none⟩))),(85,.eq (.pointer (some ⟨p,2,none⟩))),(86,.eq (.slice (some a5) k c5)),(87,.eq (.pointer (some ⟨p,0,none⟩))),(88,.eq (.pointer (some ⟨p,0,none⟩))),(89,.eq (.pointer (some ⟨p,2,none⟩))),(90,.eq (.slice (some a5) k c5)),(91,.eq (.int .i64 (k:Int))),(92,.eq (.int .i64 (j:Int))),(93,.eq (.pointer (some (a5.add j)))),(94,.eq (.slice (some adp) mp cp)),(95,.eq (.slice (some bd) n c')),(96,.eq (.int .i64 (k:Int))),(97,.eq (.pointer (some (bd.add k)))),(98,.eq (.int .i64 (m:Int))),(99,SFact.newv wr.heap.size m (u.map .bool)),(100,SFact.newr wr.heap.size m (u.map .bool)),(101,(⟨AppW wr (p+1) 80 k (.slice (some a5) k c5) l m (u.map .bool),AppW.st⟩:SFact)),(102,.eq (.pointer (some ⟨p,0,none⟩))),(103,.eq (.pointer (some ⟨p,2,none⟩)))] rfl (by kernel_rfl) (by kernel_rfl) (by kernel_rfl) rfl rfl _ (fun x=>by simp only [fillL,Nat.reduceAdd,Nat.reduceEqDiff,↓reduceIte];rfl) ?_ ?_ ?_
      ·refine ⟨?_,?_,?_,?_,?_,?_,?_,?_,?_,?_,?_,?_,?_,?_,?_,?_,?_,?_,?_,?_,?_,?_,trivial⟩
       ·intro fx w' fa hd ev;have e7:fa.tmps[7]?.getD undef=.pointer (some ⟨p,0,none⟩):=ev.old 7 rfl;refine stepF_un rfl (fun K hK=>?_);exact stepF_val _ hK (run_move rfl e7 _) rfl
       ·intro fx w' fa hk hd ev;have e7:fa.tmps[7]?.getD undef=.pointer (some ⟨p,0,none⟩):=ev.old 7 rfl;refine stepF_un rfl (fun K hK=>?_);exact stepF_val _ hK (run_move rfl e7 _) rfl
       ·intro fx w' fa hk hd ev;have e83:=(ev.new 83 rfl).trans (show fx 83=.pointer (some ⟨p,0,none⟩) from hd.1);refine stepF_un rfl (fun K hK=>?_);go_simp;exact hK _ _ rfl (Kp.refl _ _)
       ·intro fx w' fa hk hd ev;have e84:=(ev.new 84 rfl).trans (show fx 84=.pointer (some ⟨p,0,none⟩) from hd.2.1);refine stepF_un rfl (fun K hK=>?_);go_simp;exact hK _ _ rfl (Kp.refl _ _)
       ·intro fx w' fa hk hd ev;have e85:=(ev.new 85 rfl).trans (show fx 85=.pointer (some ⟨p,2,none⟩) from hd.2.2.1);refine stepF_un rfl (fun K hK=>?_);have q9:=hk.cell hc2 (by simp);go_simp;exact hK _ _ rfl (Kp.refl _ _)
       ·intro fx w' fa hk hd ev;have e7:fa.tmps[7]?.getD undef=.pointer (some ⟨p,0,none⟩):=ev.old 7 rfl;refine stepF_un rfl (fun K hK=>?_);exact stepF_val _ hK (run_move rfl e7 _) rfl
       ·intro fx w' fa hk hd ev;have e87:=(ev.new 87 rfl).trans (show fx 87=.pointer (some ⟨p,0,none⟩) from hd.1);refine stepF_un rfl (fun K hK=>?_);go_simp;exact hK _ _ rfl (Kp.refl _ _)
       ·intro fx w' fa hk hd ev;have e88:=(ev.new 88 rfl).trans (show fx 88=.pointer (some ⟨p,0,none⟩) from hd.2.1);refine stepF_un rfl (fun K hK=>?_);go_simp;exact hK _ _ rfl (Kp.refl _ _)
       ·intro fx w' fa hk hd ev;have e89:=(ev.new 89 rfl).trans (show fx 89=.pointer (some ⟨p,2,none⟩) from hd.2.2.1);refine stepF_un rfl (fun K hK=>?_);have q9:=hk.cell hc2 (by simp);go_simp;exact hK _ _ rfl (Kp.refl _ _)
       ·intro fx w' fa hk hd ev;have e8:fa.tmps[8]?.getD undef=.int .i64 (k:Int):=ev.old 8 rfl;refine stepF_un rfl (fun K hK=>?_);exact stepF_val _ hK (run_move rfl e8 _) rfl
       ·intro fx w' fa hk hd ev;have e91:=(ev.new 91 rfl).trans (show fx 91=.int .i64 (k:Int) from hd.1);refine stepF_un rfl (fun K hK=>?_);go_simp;exact hK _ _ rfl (Kp.refl _ _)
       ·intro fx w' fa hk hd ev;have e90:=(ev.new 90 rfl).trans (show fx 90=.slice (some a5) k c5 from hd.2.2.2.1);have e92:=(ev.new 92 rfl).trans (show fx 92=.int .i64 (j:Int) from hd.2.2.2.2.2.1);refine stepF_un rfl (fun K hK=>?_);go_simp;exact hK _ _ rfl (Kp.refl _ _)
       ·intro fx w' fa hk hd ev;have e93:=(ev.new 93 rfl).trans (show fx 93=.pointer (some (a5.add j)) from hd.2.2.2.2.2.2.1);refine stepF_un rfl (fun K hK=>?_);have q9:=hk.cell hcp (by simp);go_simp;exact hK _ _ rfl (Kp.refl _ _)
       ·intro fx w' fa hk hd ev;have e1:fa.tmps[1]?.getD undef=.slice (some bd) n c':=ev.old 1 rfl;refine stepF_un rfl (fun K hK=>?_);exact stepF_val _ hK (run_move rfl e1 _) rfl
       ·intro fx w' fa hk hd ev;have e8:fa.tmps[8]?.getD undef=.int .i64 (k:Int):=ev.old 8 rfl;refine stepF_un rfl (fun K hK=>?_);exact stepF_val _ hK (run_move rfl e8 _) rfl
       ·intro fx w' fa hk hd ev;have e95:=(ev.new 95 rfl).trans (show fx 95=.slice (some bd) n c' from hd.1);have e96:=(ev.new 96 rfl).trans (show fx 96=.int .i64 (k:Int) from hd.2.1);refine stepF_un rfl (fun K hK=>?_);go_simp;exact hK _ _ rfl (Kp.refl _ _)
       ·intro fx w' fa hk hd ev;have e97:=(ev.new 97 rfl).trans (show fx 97=.pointer (some (bd.add k)) from hd.2.2.1);refine stepF_un rfl (fun K hK=>?_);have q9:=hk.cell hcm (by simp);go_simp;exact hK _ _ rfl (Kp.refl _ _)
       ·intro fx w' fa hk hd ev;have e94:=(ev.new 94 rfl).trans (show fx 94=.slice (some adp) mp cp from hd.2.2.2.2.2.2.2.1);have e98:=(ev.new 98 rfl).trans (show fx 98=.int .i64 (m:Int) from hd.2.2.2.2.2.2.2.2.2.2.2.1);refine stepF_un rfl (fun K hK=>?_);go_simp;refine (refnext_any (some adp) mp m cp wr.heap.size up w' (HRP.out.kp0 hk) HUPL.out hp1 (by omega) (by omega)).mono ?_;rintro e w1 ⟨A9,c9,rfl,q1,q2,q3,q4⟩;exact hK _ _ (newv_of (by rw [HUX.out] at q2;exact q2) HUM.out hm1 q1 (fun a ha=>Nat.le_trans hk.size (q3 a ha))) q4
       ·intro fx w' fa hk hd ev;have h99:(SFact.newv wr.heap.size m (u.map .bool):SFact).p (fx 99) w':=hd.2.2.2.2.2.2.2.2.2.2.2.2.1;obtain ⟨ad99,c99,v99,n99,b99,s99,r99⟩:=h99;have e99:fa.tmps[99]?.getD undef=.slice (some ad99) m c99:=(ev.new 99 rfl).trans v99;refine stepF_un rfl (fun K hK=>?_);go_simp;exact hK _ _ ⟨ad99,c99,vals_new w' [.slice (some ad99) m c99] 80 1,n99,b99,by simp;omega,(r99.kp0 ((Kp.refl _ w').alloc _)).bound (by simp)⟩ ((Kp.refl _ _).alloc _)
       ·exact trivial
       ·intro fx w' fa hd ev;have e82:=(ev.new 82 rfl).trans (show fx 82=.pointer (some ⟨p,0,none⟩) from hd.1);refine stepF_un rfl (fun K hK=>?_);go_simp;exact hK _ _ rfl (Kp.refl _ _)
       ·intro fx w' fa hd ev;have e102:=(ev.new 102 rfl).trans (show fx 102=.pointer (some ⟨p,0,none⟩) from hd.2.1);refine stepF_un rfl (fun K hK=>?_);go_simp;exact hK _ _ rfl (Kp.refl _ _)
      ·intro o1 ho1 fx w' fa hk hd ev K hK;obtain rfl:=Option.some.inj ho1;have e86:=(ev.new 86 rfl).trans (show fx 86=.slice (some a5) k c5 from hd.2.2.2.1);have h100:(SFact.newr wr.heap.size m (u.map .bool):SFact).p (fx 100) w':=hd.2.2.2.2.2.2.2.2.2.2.2.2.2.2.2.2.2.1;have e100:fa.tmps[100]?.getD undef=fx 100:=ev.new 100 rfl;exact wp_append_w 86 100 82 rfl (p+1) 80 ir (.slice none 0 0) 24 Tryz.underlying82 hir hy0 hy1 hy2 rfl (.slice (some a5) k c5) k l e86 HOW.out hk m _ (by rw [e100];exact h100) (by unfold maxLen;omega) (by omega) HZP.out hK
      ·intro fx w' hd;have h82:fx 82=.pointer (some ⟨p,0,none⟩):=hd.1;have h83:fx 83=.pointer (some ⟨p,0,none⟩):=hd.2.1;have h84:fx 84=.pointer (some ⟨p,0,none⟩):=hd.2.2.1;have h85:fx 85=.pointer (some ⟨p,2,none⟩):=hd.2.2.2.1;have h86:fx 86=.slice (some a5) k c5:=hd.2.2.2.2.1;have h87:fx 87=.pointer (some ⟨p,0,none⟩):=hd.2.2.2.2.2.1;have h88:fx 88=.pointer (some ⟨p,0,none⟩):=hd.2.2.2.2.2.2.1;have h89:fx 89=.pointer (some ⟨p,2,none⟩):=hd.2.2.2.2.2.2.2.1;have h90:fx 90=.slice (some a5) k c5:=hd.2.2.2.2.2.2.2.2.1;have h91:fx 91=.int .i64 (k:Int):=hd.2.2.2.2.2.2.2.2.2.1;have h92:fx 92=.int .i64 (j:Int):=hd.2.2.2.2.2.2.2.2.2.2.1;have h93:fx 93=.pointer (some (a5.add j)):=hd.2.2.2.2.2.2.2.2.2.2.2.1;have h94:fx 94=.slice (some adp) mp cp:=hd.2.2.2.2.2.2.2.2.2.2.2.2.1;have h95:fx 95=.slice (some bd) n c':=hd.2.2.2.2.2.2.2.2.2.2.2.2.2.1;have h96:fx 96=.int .i64 (k:Int):=hd.2.2.2.2.2.2.2.2.2.2.2.2.2.2.1;have h97:fx 97=.pointer (some (bd.add k)):=hd.2.2.2.2.2.2.2.2.2.2.2.2.2.2.2.1;have h98:fx 98=.int .i64 (m:Int):=hd.2.2.2.2.2.2.2.2.2.2.2.2.2.2.2.2.1;have hP:(AppW wr (p+1) 80 k (.slice (some a5) k c5) l m (u.map .bool)) (fx 101) w':=hd.2.2.2.2.2.2.2.2.2.2.2.2.2.2.2.2.2.1;have h102:fx 102=.pointer (some ⟨p,0,none⟩):=hd.2.2.2.2.2.2.2.2.2.2.2.2.2.2.2.2.2.2.1;have h103:fx 103=.pointer (some ⟨p,2,none⟩):=hd.2.2.2.2.2.2.2.2.2.2.2.2.2.2.2.2.2.2.2.1
       change Oper.wp _ _ _ _ _ _
       obtain ⟨A7,c7,l7,e79,hS7,g1,g2⟩:=HS.out.step HU.out (by rw [HUM.out];exact hP);have HS7:=Lib.hid hS7;rw [e79,h103];clear hd hS7;go_simp;go_wp2_with fail;exact ⟨⟨k+1,c7,A7,l7,by go_num,by omega,HS7⟩,by simp [intOf];omega⟩
    ·have hkd:decide ((k:Int) < (n:Int))=false:=by simp;omega
     have hkd':decide (k < n)=false:=by simp;omega
     obtain rfl:k=n:=by omega
     have HDN:=Lib.hid (HS.out.done HCT.out HM.out hn1 HR2.out HR3.out HB2.out.1 HB3.out.1 HB2.out.2 HB3.out.2 HC2.out HC3.out);go_wp2_with fail;go_ret2;exact ⟨fun _=>⟨p,rfl,HDN.out⟩,fun h=>absurd HOK.out h,HK4.out.trans' HS.out.2.2.2.1 (fun x hx=>.inr (by rw [List.mem_singleton.1 hx];exact HS.out.2.2.2.2.1))⟩
end Go.Proofs.YtanacapkfllbnaaGreatDoor
