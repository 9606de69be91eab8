/-
  THE CONTRACTS OF LAYER 5, fifth part: the table, filled.
  THE CONTRACTS OF LAYER 5, sixth part: tucker.Lengths.
  THE CONTRACTS OF LAYER 5, seventh part: tucker.Fits: whether lengths are the depths of a tree's leaves.
  THE CONTRACTS OF LAYER 5's REFERENCE, first part: a matrix of numbers in memory; the lengths of a row, written out.
  THE CONTRACTS OF LAYER 5's REFERENCE, second part: ossuaryref05.Lengths.
  CONDITIONS: as each lemma says.
-/
import Derived.Test.YtanacapkfllbnaaGreatDoorR13
import Derived.Test.YtanacapkfllbnaaGreatDoorR04
set_option maxRecDepth 100000
set_option maxHeartbeats 4000000
namespace Go.Proofs.YtanacapkfllbnaaGreatDoor
open Go.RowKit

def SumB (w:World) (As:Option Addr) (l:List Int) (n:Nat):Prop:=∃ gs rest,As=some ⟨gs,0,none⟩∧Blk w gs 3 ((sumsL l (n+1)).map (.int .i64) ++ rest)
section
variable {w w':World} {As:Option Addr} {l:List Int} {n:Nat}
theorem SumB.of_own {base c:Nat} (h:w.ownsRow base 3 1 (.slice As (n+1) c) (n+1) ((sumsL l (n+1)).map (.int .i64))):SumB w As l n:=by
 rcases own_blk h with ⟨_,h0,_⟩ | ⟨g,cap,rest,hv,_,hb,_⟩
 ·omega
 ·injection hv with hv
  exact ⟨g,rest,hv,hb⟩
theorem SumB.rd (h:SumB w As l n):Rd w w.heap.size As ((sumsL l (n+1)).map (.int .i64)):=by
 obtain ⟨gs,rest,rfl,hb⟩:=h;have:=(hb.rd hb.lt).take ((sumsL l (n+1)).map (Value.int .i64)).length
 rwa [List.take_left'] at this
 rfl
theorem SumB.kp0 (h:SumB w As l n) (hk:Kp [] w w'):SumB w' As l n:=by
 obtain ⟨gs,rest,e,hb⟩:=h;exact ⟨gs,rest,e,hb.kp0 hk⟩
theorem SumB.set {p:Addr} {t:TypeId} {L:List Value} (h:SumB w As l n) (hp:Blk w p.block t L) (ht:3 ≠ t) (u:Value):SumB (w.setCell p u) As l n:=by
 obtain ⟨gs,rest,e,hb⟩:=h;exact ⟨gs,rest,e,hb.far (hb.ne hp ht) u⟩
end
def SFact.sums (l:List Int) (n:Nat):SFact:=⟨fun v w=>∃ A c,v=.slice A (n+1) c∧SumB w A l n,fun _ _ _ h hk=>by
 obtain ⟨A,c,h1,h2⟩:=h
 exact ⟨A,c,h1,h2.kp0 hk⟩⟩
def SFact.fresh (b n:Nat):SFact:=⟨fun v w=>∃ g,v=.slice (some ⟨g,0,none⟩) n n∧b≤g∧Blk w g 221 (List.replicate n (.slice none 0 0)),fun _ _ _ h hk=>by
 obtain ⟨g,h1,h2,h3⟩:=h
 exact ⟨g,h1,h2,h3.kp0 hk⟩⟩
def SFact.top (b:Nat) (l:List Int) (n:Nat):SFact:=⟨fun v w=>∃ g G A c,v=.pointer (some ⟨g,0,none⟩)∧b≤g∧Blk w g 220 [.slice A (n+1) c,.slice (some ⟨G,0,none⟩) n n]∧b≤G∧Blk w G 221 (List.replicate n (.slice none 0 0))∧SumB w A l n,fun _ _ _ h hk=>by
 obtain ⟨g,G,A,c,h1,h2,h3,h4,h5,h6⟩:=h
 exact ⟨g,G,A,c,h1,h2,h3.kp0 hk,h4,h5.kp0 hk,h6.kp0 hk⟩⟩
theorem SFact.sums_p (l:List Int) (n:Nat) (v:Value) (w:World):(SFact.sums l n).p v w=∃ A c,v=.slice A (n+1) c∧SumB w A l n:=rfl
theorem SFact.fresh_p (b n:Nat) (v:Value) (w:World):(SFact.fresh b n).p v w=∃ g,v=.slice (some ⟨g,0,none⟩) n n∧b≤g∧Blk w g 221 (List.replicate n (.slice none 0 0)):=rfl
theorem SFact.top_p (b:Nat) (l:List Int) (n:Nat) (v:Value) (w:World):(SFact.top b l n).p v w=∃ g G A c,v=.pointer (some ⟨g,0,none⟩)∧b≤g∧Blk w g 220 [.slice A (n+1) c,.slice (some ⟨G,0,none⟩) n n]∧b≤G∧Blk w G 221 (List.replicate n (.slice none 0 0))∧SumB w A l n:=rfl

theorem Tryz.info_row:(Tryz.prog.info? 221).map (fun i=>(i.zero,i.size,i.bytes))=some (some (.slice none 0 0),1,24):=by kernel_rfl
theorem Tryz.info_cell:(Tryz.prog.info? 223).map (fun i=>(i.zero,i.size,i.bytes))=some (some (.agg #[.int .i64 0,.int .i64 0]),2,16):=by kernel_rfl
theorem rowV_zero (n:Nat):rowV n (fun _=>(0,0))=List.replicate (n * 2) (.int .i64 0):=by
 induction n with
 | zero=>rfl
 | succ n ih=>rw [rowV_succ,ih,show (n+1) * 2=n * 2+1+1 from by omega,List.replicate_succ',List.replicate_succ',List.append_assoc];rfl
theorem madeCells_two (z:Value) (n:Nat):(madeCells #[z,z] n).toList=List.replicate n z:=by
 unfold madeCells;simp only [Array.toList_map,Array.toList_range]
 refine List.eq_replicate_iff.2 ⟨by simp,fun v hv=>?_⟩;obtain ⟨k,_,rfl⟩:=List.mem_map.1 hv;rcases Nat.mod_two_eq_zero_or_one k with h | h <;> simp [h]
structure Tabk (w:World) (b g G n k:Nat) (R:Nat→Nat) (As:Option Addr) (cs:Nat) (l:List Int):Prop where
 top:Blk w g 220 [.slice As (n+1) cs,.slice (some ⟨G,0,none⟩) n n]
 sums:SumB w As l n
 rows:Blk w G 221 ((List.range n).map fun j=>if j < k then .slice (some ⟨R j,0,none⟩) n n else .slice none 0 0)
 row:∀ j,j < k→Blk w (R j) 223 (rowV n (fun m=>if m=j then (0,j+1) else (0,0)))
 apart:∀ i j,i < k→j < k→R i=R j→i=j
 far:b≤g∧b≤G∧∀ j,j < k→b≤R j
theorem Tabk.start {w:World} {b g G n:Nat} {As:Option Addr} {cs:Nat} {l:List Int} (hb:b≤g) (h1:Blk w g 220 [.slice As (n+1) cs,.slice (some ⟨G,0,none⟩) n n]) (hB:b≤G) (h2:Blk w G 221 (List.replicate n (.slice none 0 0)))
  (h3:SumB w As l n):Tabk w b g G n 0 (fun _=>0) As cs l:=
 ⟨h1,h3,by
  have e:((List.range n).map fun j=>if j < 0 then Value.slice (some ⟨0,0,none⟩) n n else .slice none 0 0)=List.replicate n (.slice none 0 0):=
   List.eq_replicate_iff.2 ⟨by simp,fun v hv=>by
    obtain ⟨k,_,rfl⟩:=List.mem_map.1 hv
    rfl⟩
  rw [e];exact h2,fun j h=>by omega,fun i j h=>by omega,hb,hB,fun j h=>by omega⟩
theorem Tabk.kp0 {w w':World} {b g G n k:Nat} {R:Nat→Nat} {As:Option Addr} {cs:Nat} {l:List Int} (h:Tabk w b g G n k R As cs l) (hk:Kp [] w w'):Tabk w' b g G n k R As cs l:=
 ⟨h.top.kp0 hk,h.sums.kp0 hk,h.rows.kp0 hk,fun j hj=>(h.row j hj).kp0 hk,h.apart,h.far⟩
theorem Tabk.facts {w:World} {b g G n k:Nat} {R:Nat→Nat} {As:Option Addr} {cs:Nat} {l:List Int} (h:Tabk w b g G n k R As cs l) (hk:k < n) :
  w.cell? ⟨g,1,none⟩=some (.slice (some ⟨G,0,none⟩) n n)∧w.cell? ⟨G,k,none⟩=some (.slice none 0 0)∧w.frozen? ⟨G,k,none⟩=false:=
 ⟨by rw [h.top.cell];rfl,by rw [h.rows.cell];simp [hk],h.rows.free k⟩
theorem row_made {n k:Nat} (h:k < n):rowV n (fun m=>if m=k then (0,k+1) else (0,0))=(rowV n fun _=>(0,0)).set (k * 2+1) (.int .i64 ((k:Int)+1)):=by
 have e:=rowV_set (fun _=>(0,0)) 0 (k+1) h
 have e0:(rowV n fun _=>(0,0)).set (2 * k) (.int .i64 ((0:Nat):Int))=rowV n fun _=>(0,0):=by
  apply List.ext_getElem?
  intro i;rw [List.getElem?_set];by_cases hi:2 * k=i
  ·subst hi;rw [if_pos rfl,(rowV_get _ h).1];rw [if_pos (by rw [rowV_len];omega)]
  ·rw [if_neg hi]
 rw [e0,Nat.mul_comm 2 k] at e;exact e.symm
theorem Tabk.made {w:World} {b g G n k:Nat} {R:Nat→Nat} {As:Option Addr} {cs:Nat} {l:List Int} (h:Tabk w b g G n k R As cs l) (hk:k < n) (hb:b≤w.heap.size) :
  Tabk ((w.setCell ⟨G,k,none⟩ (.slice (some ⟨w.heap.size,0,none⟩) n n)).alloc (.cells ((rowV n fun _=>(0,0)).set (k * 2+1) (.int .i64 ((k:Int)+1))).toArray 223)) b g G n (k+1) (fun j=>if j=k then w.heap.size else R j) As cs l:=by
 have hgG:g ≠ G:=h.top.ne h.rows (by decide);have hsz:(w.setCell ⟨G,k,none⟩ (.slice (some ⟨w.heap.size,0,none⟩) n n)).heap.size=w.heap.size:=by simp
 have hR:∀ j,j < k→R j ≠ G:=fun j hj=>(h.row j hj).ne h.rows (by decide)
 rw [← row_made hk];refine ⟨(h.top.far (p:=⟨G,k,none⟩) hgG _).alloc _,(h.sums.set (p:=⟨G,k,none⟩) h.rows (by decide) _).kp0 ((Kp.refl [] _).alloc _),?_,?_,?_,h.far.1,h.far.2.1,?_⟩
 ·have h1:=(h.rows.set_ k (.slice (some ⟨w.heap.size,0,none⟩) n n)).alloc (.cells (rowV n (fun m=>if m=k then (0,k+1) else (0,0))).toArray 223)
  have e:((List.range n).map fun j=>if j < k then Value.slice (some ⟨R j,0,none⟩) n n else .slice none 0 0).set k (.slice (some ⟨w.heap.size,0,none⟩) n n) =
    (List.range n).map fun j=>if j < k+1 then Value.slice (some ⟨if j=k then w.heap.size else R j,0,none⟩) n n else .slice none 0 0:=by
   apply List.ext_getElem?
   intro i;rw [List.getElem?_set];simp only [List.getElem?_map,List.length_map,List.length_range]
   by_cases hi:k=i
   ·subst hi;rw [if_pos rfl,if_pos hk]
    simp [hk]
   ·rw [if_neg hi];by_cases hin:i < n
    ·simp only [List.getElem?_range hin,Option.map_some,Option.some.injEq]
     by_cases hik:i < k
     ·rw [if_pos hik,if_pos (by omega),if_neg (by omega)]
     ·rw [if_neg hik,if_neg (by omega)]
    ·simp [hin]
  rw [e] at h1;exact h1
 ·intro j hj;by_cases hjk:j=k
  ·subst hjk;rw [if_pos rfl];have h3:=Blk.new (w.setCell ⟨G,j,none⟩ (.slice (some ⟨w.heap.size,0,none⟩) n n)) 223 (rowV n (fun m=>if m=j then (0,j+1) else (0,0)));rw [hsz] at h3;exact h3
  ·rw [if_neg hjk];exact ((h.row j (by omega)).far (p:=⟨G,k,none⟩) (hR j (by omega)) _).alloc _
 ·intro i j hi hj he;by_cases hik:i=k
  ·by_cases hjk:j=k
   ·omega
   ·rw [if_pos hik,if_neg hjk] at he;have:=(h.row j (by omega)).lt;omega
  ·by_cases hjk:j=k
   ·rw [if_neg hik,if_pos hjk] at he;have:=(h.row i (by omega)).lt;omega
   ·rw [if_neg hik,if_neg hjk] at he;exact h.apart i j (by omega) (by omega) he
 ·intro j hj;by_cases hjk:j=k
  ·rw [if_pos hjk];exact hb
  ·rw [if_neg hjk];exact h.far.2.2 j (by omega)
theorem Tabk.done {w:World} {b g G n:Nat} {R:Nat→Nat} {As:Option Addr} {cs:Nat} {l:List Int} (h:Tabk w b g G n n R As cs l):Tab w g G n R (fun i m=>if m=i then (0,i+1) else (0,0)) As cs l:=
 ⟨h.top,h.sums.rd,by
  have e:((List.range n).map fun j=>if j < n then Value.slice (some ⟨R j,0,none⟩) n n else .slice none 0 0)=(List.range n).map fun k=>.slice (some ⟨R k,0,none⟩) n n:=
   List.map_congr_left fun j hj=>by rw [if_pos (List.mem_range.1 hj)]
  have:=h.rows
  rwa [e] at this,h.row,h.apart⟩
theorem Tab.put {w:World} {g G n:Nat} {R:Nat→Nat} {D:Nat→Nat→Nat × Nat} {As:Option Addr} {cs:Nat} {l:List Int} (h:Tab w g G n R D As cs l) (hs:SumB w As l n) {i j:Nat} (hi:i < n) (hj:j < n) (a b:Nat) :
  Tab ((w.setCell ⟨R i,j * 2,none⟩ (.int .i64 (a:Int))).setCell ⟨R i,j * 2+1,none⟩ (.int .i64 (b:Int))) g G n R (fun x y=>if x=i∧y=j then (a,b) else D x y) As cs l ∧
  SumB ((w.setCell ⟨R i,j * 2,none⟩ (.int .i64 (a:Int))).setCell ⟨R i,j * 2+1,none⟩ (.int .i64 (b:Int))) As l n:=by
 have hri:=h.row i hi;have h1:=hri.set_ (j * 2) (.int .i64 (a:Int));have hg:g ≠ R i:=h.top.ne hri (by decide);have hG:G ≠ R i:=h.rows.ne hri (by decide);have hs1:=(hs.set (p:=⟨R i,j * 2,none⟩) hri (by decide) (.int .i64 (a:Int))).set (p:=⟨R i,j * 2+1,none⟩) h1 (by decide) (.int .i64 (b:Int));refine ⟨⟨(h.top.far (p:=⟨R i,j * 2,none⟩) hg _).far (p:=⟨R i,j * 2+1,none⟩) hg _,hs1.rd,(h.rows.far (p:=⟨R i,j * 2,none⟩) hG _).far (p:=⟨R i,j * 2+1,none⟩) hG _,?_,h.apart⟩,hs1⟩;intro x hx;by_cases hxi:x=i
 ·subst hxi;have h2:=h1.set_ (j * 2+1) (.int .i64 (b:Int));rw [Nat.mul_comm j 2,rowV_set _ _ _ hj] at h2;rw [Nat.mul_comm j 2];rw [rowV_congr (g:=upd (D x) j (a,b)) (fun k _=>by unfold upd;simp)];exact h2
 ·have hne:R x ≠ R i:=fun he=>hxi (h.apart x i hx hi he)
  rw [rowV_congr (g:=D x) (fun k _=>by simp [hxi])];exact ((h.row x hx).far (p:=⟨R i,j * 2,none⟩) hne _).far (p:=⟨R i,j * 2+1,none⟩) hne _
theorem Tabk.between {w:World} {b g G n k:Nat} {R:Nat→Nat} {As:Option Addr} {cs:Nat} {l:List Int} (h:Tabk w b g G n k R As cs l) (hk:k < n) :
  ∀ w1,w1=(w.setCell ⟨G,k,none⟩ (.slice (some ⟨w.heap.size,0,none⟩) n n)).alloc (.cells (rowV n fun _=>(0,0)).toArray 223) →
  w1.cell? ⟨g,1,none⟩=some (.slice (some ⟨G,0,none⟩) n n)∧w1.cell? ⟨G,k,none⟩=some (.slice (some ⟨w.heap.size,0,none⟩) n n)∧w1.cell? ⟨w.heap.size,k * 2+1,none⟩=some (.int .i64 0)∧w1.frozen? ⟨w.heap.size,k * 2+1,none⟩=false:=by
 rintro w1 rfl;have hgG:g ≠ G:=h.top.ne h.rows (by decide);have hsz:(w.setCell ⟨G,k,none⟩ (.slice (some ⟨w.heap.size,0,none⟩) n n)).heap.size=w.heap.size:=by simp
 have h1:=(h.rows.set_ k (.slice (some ⟨w.heap.size,0,none⟩) n n)).alloc (.cells (rowV n fun _=>(0,0)).toArray 223);have h2:=(h.top.far (p:=⟨G,k,none⟩) hgG (.slice (some ⟨w.heap.size,0,none⟩) n n)).alloc (.cells (rowV n fun _=>(0,0)).toArray 223);have h3:=Blk.new (w.setCell ⟨G,k,none⟩ (.slice (some ⟨w.heap.size,0,none⟩) n n)) 223 (rowV n fun _=>(0,0));rw [hsz] at h3;refine ⟨by rw [h2.cell];rfl,by rw [h1.cell];simp [hk],?_,h3.free _⟩;rw [h3.cell,Nat.mul_comm k 2];exact (rowV_get _ hk).2
def Filled (l:List Int) (n long at_:Nat) (D:Nat→Nat→Nat × Nat):Prop:=∀ a b,a≤b→b < n→(b - a < long ∨ (b - a=long∧a < at_))→D a b=cellW (wt l) a b
theorem Filled.start (l:List Int) (n:Nat):Filled l n 1 0 (fun i m=>if m=i then (0,i+1) else (0,0)):=by
 intro a b h1 h2 h3;obtain rfl:a=b:=by omega
 show (if a=a then _ else _)=_
 rw [if_pos rfl];unfold cellW;rw [C_self,if_pos rfl]
theorem Filled.put {l:List Int} {n long at_:Nat} {D:Nat→Nat→Nat × Nat} (h:Filled l n long at_ D) (hl:1≤long):Filled l n long (at_+1) (fun x y=>if x=at_∧y=at_+long then (C (wt l) at_ (at_+long),K (wt l) at_ (at_+long)) else D x y):=by
 intro a b h1 h2 h3
 dsimp only
 by_cases e:a=at_∧b=at_+long
 ·rw [if_pos e,e.1,e.2];unfold cellW;rw [if_neg (by omega)]
 ·rw [if_neg e];exact h a b h1 h2 (by omega)
theorem Filled.next {l:List Int} {n long at_:Nat} {D:Nat→Nat→Nat × Nat} (h:Filled l n long at_ D) (ha:n≤at_+long):Filled l n (long+1) 0 D:=fun a b h1 h2 h3=>h a b h1 h2 (by omega)
theorem run_make_cells (i:TypeInfo) (h2:Tryz.prog.info? 223=some i) (h3:i.zero=some (.agg #[.int .i64 0,.int .i64 0])) (h4:i.size=2) (h5:i.bytes=16) (n:Nat) (hn:n≤300) (w:World) :
  (Instr.makeSlice 221 (.int .i64 (n:Int)) (.int .i64 (n:Int))).run Tryz.prog w=.ok (.slice (some ⟨w.heap.size,0,none⟩) n n) (w.alloc (.cells (rowV n (fun _=>(0,0))).toArray 223)):=by
 have hr:=run_make (P:=Tryz.prog) w 221 223 i _ Tryz.underlying221 h2 h3 .i64 .i64 n n (by omega) (by omega) (by rw [h5];omega) (by omega);simp only [Int.toNat_natCast] at hr
 rw [hr,h4,rowV_zero]
 congr 3
 rw [← madeCells_two];rfl
set_option maxHeartbeats 2000000 in
theorem filled_any (A:Option Addr) (n c B:Nat) (l:List Int) (w:World) (hx:Rd w B A (l.map (.int .i64))) (hn:l.length=n) (hnb:n≤257) (hw:Wts l) :
  Calls Tryz.prog 110 #[.slice A n c] w fun e w'=>∃ g G R D As cs,e=.returned (.pointer (some ⟨g,0,none⟩))∧Tab w' g G n R D As cs l∧(∀ a b,a≤b→b < n→D a b=cellW (wt l) a b)∧Kp [] w w':=by
 have HX:=Lib.hid hx;clear hx;have HN:=Lib.hid hn;clear hn;have HW:=Lib.hid hw;clear hw;obtain ⟨i0,hi,hz0,hz1,hz2⟩:=info_parts Tryz.info_row;have hm1:=run_make_list (P:=Tryz.prog) 218 221 i0 (.slice none 0 0) Tryz.underlying218 hi hz0 hz1 rfl .i64 .i64 n (by rw [hz2];omega) (by omega);clear hi hz0 hz1 hz2;obtain ⟨i1,hi1,hy0,hy1,hy2⟩:=info_parts Tryz.info_cell;have hm2:=run_make_cells i1 hi1 hy0 hy1 hy2 n (by omega);clear hi1 hy0 hy1 hy2
 go_enter Tryz.func110,Tryz.ntmps110
 go_upto_region 2 with fail
 refine wp_region_rel (by kernel_rfl) 75 [11,13,15] [4,10,11,12,13,14,15] [([false,false,false,false,false,false,false],[]),([true,false,false,false,false,false,false],[]),([false,false,false,false,false,false,false],[]),([false,false,true,false,false,false,false],[]),([true,false,true,false,false,false,false],[11,13]),([true,false,true,false,true,false,false],[11,13]),([true,false,true,false,true,false,false],[11,13,15])] [true,false,true,false,true,false,true] (by kernel_rfl) (by kernel_rfl) rfl (factOf [(100000,.eq undef),(11,.sums l n),(13,.fresh w.heap.size n),(15,.top w.heap.size l n)]) (factOf_stable _) _ (fun x=>by simp only [fillL,Nat.reduceAdd,Nat.reduceEqDiff,↓reduceIte];rfl) ?_ ?_
 ·refine relAll_cons (fun x w' hk hd=>?_) ?_
  ·dsimp only
   clear hd
   repeat (first | (refine wpSel_no ?_) | (refine wpSel_yes (fun K hK=>?_);go_simp;(refine hK _ ?_;clear hK K)))
   refine wpSel_nil ?_;refine relStep_pure rfl ?_;go_simp
  refine relAll_cons (fun x w' hk hd=>?_) ?_
  ·dsimp only
   clear hd
   repeat (first | (refine wpSel_no ?_) | (refine wpSel_yes (fun K hK=>?_);go_simp;(refine hK _ ?_;clear hK K)))
   refine wpSel_nil ?_;refine relStep_imp rfl (fun K hK=>?_);go_simp;refine (summed_any A n c _ l _ ((HX.out.kp0 hk).here) HN.out (by omega) HW.out).mono ?_;rintro e w1 ⟨A1,c1,rfl,hown1,hk1⟩;exact hK _ _ ⟨A1,c1,rfl,SumB.of_own hown1⟩ hk1
  refine relAll_cons (fun x w' hk hd=>?_) ?_
  ·dsimp only
   clear hd
   repeat (first | (refine wpSel_no ?_) | (refine wpSel_yes (fun K hK=>?_);go_simp;(refine hK _ ?_;clear hK K)))
   refine wpSel_nil ?_;refine relStep_pure rfl ?_;go_simp
  refine relAll_cons (fun x w' hk hd=>?_) ?_
  ·dsimp only
   clear hd
   repeat (first | (refine wpSel_no ?_) | (refine wpSel_yes (fun K hK=>?_);go_simp;(refine hK _ ?_;clear hK K)))
   refine wpSel_nil ?_;refine relStep_imp rfl (fun K hK=>?_);go_simp;have hsz:=hk.size;exact hK _ _ ⟨_,rfl,hsz,Blk.new w' _ _⟩ ((Kp.refl _ _).alloc _)
  refine relAll_cons (fun x w' hk hd=>?_) ?_
  ·dsimp only
   simp only [depAll,factOf,Nat.reduceEqDiff,↓reduceIte,SFact.fresh_p,SFact.sums_p] at hd
   obtain ⟨⟨A11,c11,e11,hr11⟩,⟨g13,e13,hb13,hg13⟩,-⟩:=hd
   repeat (first | (refine wpSel_no ?_) | (refine wpSel_yes (fun K hK=>?_);go_simp;(refine hK _ ?_;clear hK K)))
   refine wpSel_nil ?_;refine relStep_pure rfl ?_;go_simp
  refine relAll_cons (fun x w' hk hd=>?_) ?_
  ·dsimp only
   simp only [depAll,factOf,Nat.reduceEqDiff,↓reduceIte,SFact.fresh_p,SFact.sums_p] at hd
   obtain ⟨⟨A11,c11,e11,hr11⟩,⟨g13,e13,hb13,hg13⟩,-⟩:=hd
   repeat (first | (refine wpSel_no ?_) | (refine wpSel_yes (fun K hK=>?_);go_simp;(refine hK _ ?_;clear hK K)))
   refine wpSel_nil ?_;refine relStep_imp rfl (fun K hK=>?_);go_simp;have hsz:=hk.size;exact hK _ _ ⟨_,_,_,_,rfl,hsz,Blk.new w' _ _,hb13,hg13.alloc _,hr11.kp0 ((Kp.refl _ _).alloc _)⟩ ((Kp.refl _ _).alloc _)
  refine relAll_cons (fun x w' hk hd=>?_) ?_
  ·dsimp only
   simp only [depAll,factOf,Nat.reduceEqDiff,↓reduceIte,SFact.fresh_p,SFact.sums_p,SFact.top_p] at hd
   obtain ⟨⟨A11,c11,e11,hr11⟩,⟨g13,e13,hb13,hg13⟩,⟨g15,G15,A15,c15,e15,hb15,hg15,hb16,hg16,hr15⟩,-⟩:=hd
   repeat (first | (refine wpSel_no ?_) | (refine wpSel_yes (fun K hK=>?_);go_simp;(refine hK _ ?_;clear hK K)))
   refine wpSel_nil ?_;refine relStep_pure rfl ?_;go_simp
  exact relAll_nil
 ·intro x w' hk hd
  dsimp only
  simp only [depAll,factOf,Nat.reduceEqDiff,↓reduceIte,SFact.fresh_p,SFact.sums_p,SFact.top_p] at hd
  obtain ⟨⟨A11,c11,e11,hr11⟩,⟨g13,e13,hb13,hg13⟩,⟨g15,G15,A15,c15,e15,hb15,hg15,hb16,hg16,hr15⟩,-⟩:=hd
  repeat (first | (refine wpSel_no ?_) | (refine wpSel_yes (fun K hK=>?_);go_simp;(refine hK _ ?_;clear hK K)))
  refine wpSel_nil ?_;clear e11 e13 e15 hr11 hg13;have HK1:=Lib.hid hk;clear hk;have HTK:=Lib.hid (Tabk.start hb15 hg15 hb16 hg16 hr15);clear hb13 hb15 hg15 hb16 hg16 hr15;have hs0:=HTK.out.top.cell 1;simp only [List.getElem?_cons_zero,List.getElem?_cons_succ] at hs0
  go_wp2_with fail
  go_loopw [21] (fun x wr=>∃ (k:Nat) (R:Nat→Nat),x=.int .i64 (k:Int)∧k≤n∧Hid (Tabk wr w.heap.size g15 G15 n k R A15 c15 l)∧Hid (Kp [] w wr)) (fun x _=>n - (intOf x).toNat)
  case atStart=>exact ⟨0,fun _=>0,rfl,by omega,HTK,HK1⟩
  case round =>
   obtain ⟨k,R,rfl,hk,HT,HK⟩:=hrel;by_cases hlt:k < n
   ·obtain ⟨c1,c2,c3⟩:=HT.out.facts hlt;have hG:=HT.out.rows.lt;have hw1:IntKind.i64.wrap ((k:Int)+1)=((k+1:Nat):Int):=by rw [IntKind.wrap_i64];omega
    obtain ⟨d1,d2,d3⟩:=(HT.out.kp0 ((Kp.refl [] wr).alloc (.cells (rowV n fun x=>(0,0)).toArray 223))).facts hlt;obtain ⟨e1,e2,e3,e4⟩:=HT.out.between hlt _ rfl;go_wp2_with fail
    go_region
    go_wp2_with fail;exact ⟨⟨k+1,_,by go_num,by omega,Lib.hid ((HT.out.made hlt HK.out.size).kp0 ((Kp.refl [] _).drew)),Lib.hid (((HK.out.setCell (.inr HT.out.far.2.1) _).alloc _).drew)⟩,by simp [intOf];omega⟩
   ·obtain rfl:k=n:=by omega
    have HTD:=Lib.hid HT.out.done;have HSB:=Lib.hid HT.out.sums;have HFR:=Lib.hid HT.out.far.2.2;clear HT hs0;have hD0:Filled l k 1 0 (fun i m=>if m=i then (0,i+1) else (0,0)):=Filled.start l k;have HD0:=Lib.hid hD0;clear hD0;go_wp2_with fail
    go_loopw [6] (fun x wr=>∃ (long:Nat) (D:Nat→Nat→Nat × Nat),x=.int .i64 (long:Int)∧1≤long∧(long≤k ∨ long=1)∧Hid (Filled l k long 0 D)∧Hid (Tab wr g15 G15 k R D A15 c15 l)∧Hid (SumB wr A15 l k)∧Hid (Kp [] w wr)) (fun x _=>k - (intOf x).toNat)
    case atStart=>exact ⟨1,_,rfl,by omega,by omega,HD0,HTD,HSB,HK⟩
    case round =>
     obtain ⟨long,D,rfl,h1,h2,HF,HT,HS,HK⟩:=hrel;by_cases hll:long < k
     ·obtain ⟨m,hm⟩:∃ m,m=k - long:=⟨_,rfl⟩;have hwm:IntKind.i64.wrap ((k:Int) - (long:Int))=(m:Int):=by rw [IntKind.wrap_i64];omega
      have HM:=Lib.hid hm;clear hm;go_wp2_with fail
      go_loopw [53] (fun x wr=>∃ (fr:Nat) (D:Nat→Nat→Nat × Nat),x=.int .i64 (fr:Int)∧fr≤m∧Hid (Filled l k long fr D)∧Hid (Tab wr g15 G15 k R D A15 c15 l)∧Hid (SumB wr A15 l k)∧Hid (Kp [] w wr)) (fun x _=>m - (intOf x).toNat)
      case atStart=>exact ⟨0,D,rfl,by omega,HF,HT,HS,HK⟩
      case round =>
       clear HF HT HS HK;obtain ⟨fr,D2,rfl,hfm,HF,HT,HS,HK⟩:=hrel;by_cases hfl:fr < m
       ·obtain ⟨j,hj⟩:∃ j,j=fr+long:=⟨_,rfl⟩;have hjk:j < k:=by have:=HM.out;omega
        have hfk:fr < k:=by have:=HM.out;omega
        have hwj:IntKind.i64.wrap ((fr:Int)+(long:Int))=(j:Int):=by rw [IntKind.wrap_i64];omega
        have HFJ:=Lib.hid (show fr < j by omega);have HJ:=Lib.hid hj;clear hj;obtain ⟨c1,c2,c3,c4⟩:=HT.out.at_ (i:=fr) (j:=j) hfk hjk;have HTD:=Lib.hid (show Tab wr.drew g15 G15 k R D2 A15 c15 l from HT.out.kp0 ((Kp.refl [] _).drew));have HDB:=Lib.hid (show ∀ a b,fr≤a→a≤b→b≤j→b - a < j - fr→D2 a b=cellW (wt l) a b from fun a b q1 q2 q3 q4=>HF.out a b q2 (by omega) (by have:=HJ.out;omega))
        go_upto_region 15 with fail
        go_region_with (go_at_call 152;go_loud (refine (best_any g15 G15 k c15 R D2 A15 l fr j _ HTD.out HW.out hnb HFJ.out hjk HDB.out).mono ?_);go_loud (rintro e w2 ⟨rfl,hk2⟩;have HK2:=Lib.hid hk2;clear hk2;obtain ⟨d1,d2,d3,d4⟩:=(HTD.out.kp0 HK2.out).at_ (i:=fr) (j:=j) hfk hjk;have d5:=((HTD.out.kp0 HK2.out).row fr hfk).free (j * 2);have d6:=((HTD.out.kp0 HK2.out).row fr hfk).free (j * 2+1)))
        all_goals go_wp2_with fail
        all_goals (have hF:=HF.out.put h1;rw [← HJ.out] at hF;have hP:=(HTD.out.kp0 HK2.out).put ((HS.out.kp0 ((Kp.refl [] _).drew)).kp0 HK2.out) hfk hjk (C (wt l) fr j) (K (wt l) fr j);exact ⟨⟨fr+1,_,by go_num,by omega,Lib.hid hF,Lib.hid hP.1,Lib.hid hP.2,Lib.hid (((HK.out.drew.trans HK2.out).setCell (.inr (HFR.out fr hfk)) _).setCell (.inr (HFR.out fr hfk)) _)⟩,by simp [intOf];omega⟩)
       ·have hF:=HF.out.next (by have:=HM.out;omega);go_wp2_with fail;exact ⟨⟨long+1,D2,by go_num,by omega,by omega,Lib.hid hF,HT,HS,HK⟩,by simp [intOf];omega⟩
     ·have hD:∀ a b,a≤b→b < k→D a b=cellW (wt l) a b:=fun a b q1 q2=>HF.out a b q1 q2 (by omega)
      have HDD:=Lib.hid hD;clear hD;go_wp2_with fail;go_ret;exact ⟨g15,G15,R,D,A15,c15,rfl,HT.out,HDD.out,HK.out⟩
end Go.Proofs.YtanacapkfllbnaaGreatDoor
namespace Go.Proofs.YtanacapkfllbnaaGreatDoor
open Go.RowKit

open Classical in
noncomputable def lensL (l:List Int):List Int:=if okW l then (if l.length=1 then [1] else lens (wt l) 0 (l.length - 1) 0) else []
open Classical in
noncomputable def lensE (l:List Int):Int:=if okW l then 0 else 2
theorem lensL_no {l:List Int} (h:¬ okW l):lensL l=[]:=by unfold lensL;rw [if_neg h]
theorem lensE_no {l:List Int} (h:¬ okW l):lensE l=2:=by unfold lensE;rw [if_neg h]
theorem lensE_ok {l:List Int} (h:okW l):lensE l=0:=by unfold lensE;rw [if_pos h]
theorem lensL_one {l:List Int} (h:okW l) (h1:l.length=1):lensL l=[1]:=by unfold lensL;rw [if_pos h,if_pos h1]
theorem lensL_more {l:List Int} (h:okW l) (h1:l.length ≠ 1):lensL l=lens (wt l) 0 (l.length - 1) 0:=by unfold lensL;rw [if_pos h,if_neg h1]
theorem lensL_len {l:List Int} (h:okW l):(lensL l).length=l.length:=by
 by_cases h1:l.length=1
 ·rw [lensL_one h h1,h1];rfl
 ·rw [lensL_more h h1,lens_len _ _ _ _ _ rfl (by omega)];have:=h.2.1;omega
theorem lensL_le (l:List Int):(lensL l).length≤257:=by
 by_cases h:okW l
 ·rw [lensL_len h];exact h.2.2
 ·rw [lensL_no h];simp

open Classical in
set_option maxHeartbeats 1000000 in
theorem tlengths_any (A:Option Addr) (n c B:Nat) (l:List Int) (w:World) (hx:Rd w B A (l.map (.int .i64))) (hn:l.length=n) (hb:n≤1000000000) :
  Calls Tryz.prog 59 #[.slice A n c] w fun e w'=>∃ A' m c',m=(lensL l).length∧e=.returned (.tuple #[.slice A' m c',.int .i64 (lensE l)])∧w'.ownsRow w.heap.size 3 1 (.slice A' m c') m ((lensL l).map (.int .i64))∧Kp [] w w':=by
 have HX:=Lib.hid hx;clear hx;have HN:=Lib.hid hn;clear hn
 go_enter Tryz.func59,Tryz.ntmps59
 go_wp2_with fail;refine (right_any A n c B l w HX.out HN.out hb).mono ?_;rintro e w1 ⟨rfl,rfl⟩;by_cases hok:okW l
 ·have hd:decide (okW l)=true:=by simp [hok]
  rw [hd];have HOK:=Lib.hid hok;clear hok hd;by_cases h1:n=1
  ·subst h1;go_wp2_with fail;go_ret2;refine ⟨some ⟨w.heap.size,0,none⟩,1,1,by rw [lensL_one HOK.out HN.out];rfl,by rw [lensE_ok HOK.out];rfl,?_,(Kp.refl [] w).alloc _⟩;rw [lensL_one HOK.out HN.out];exact own_of_blk (xs:=[.int .i64 1]) (rest:=[]) (Blk.new w 3 [.int .i64 1]) (Nat.le_refl _) (Nat.le_refl _) (by unfold maxLen;omega) rfl rfl
  ·have hn1:((n:Int) == 1)=false:=by simp;omega
   obtain ⟨p,hp⟩:∃ p,n=p+1:=⟨n - 1,by have:=HOK.out.2.1;have:=HN.out;omega⟩;have hwp:IntKind.i64.wrap ((n:Int) - 1)=(p:Int):=by rw [IntKind.wrap_i64];omega
   have hn257:n≤257:=by have:=HOK.out.2.2;have:=HN.out;omega
   have hp1:1≤p:=by omega
   have HP:=Lib.hid hp;clear hp h1;go_wp2_with fail;refine (filled_any A n c B l w HX.out HN.out hn257 HOK.out.1).mono ?_;rintro e w2 ⟨g,G,R,D,As,cs,rfl,ht,hD,hk2⟩;have HT:=Lib.hid ht;clear ht;have HD:=Lib.hid hD;clear hD;have HK:=Lib.hid hk2;clear hk2;go_wp2_with fail;refine (lengths_any g G n cs R D As l hn257 p 0 p 0 w2 rfl (by omega) (by have:=HP.out;omega) (by have:=HP.out;omega) HT.out HD.out).mono ?_;rintro e w3 ⟨A3,c3,rfl,hown3,hk3⟩;have hll:lensL l=lens (wt l) 0 p 0:=by rw [lensL_more HOK.out (by have:=HN.out;have:=HP.out;omega),HN.out,HP.out];rfl
   have HO3:=Lib.hid hown3;clear hown3;have HLL:=Lib.hid hll;clear hll;have HK3:=Lib.hid (HK.out.trans hk3);clear hk3;go_wp2_with fail;go_ret2;refine ⟨A3,p - 0+1,c3,by rw [HLL.out,lens_len _ _ _ _ _ rfl (by omega)],by rw [lensE_ok HOK.out];rfl,?_,HK3.out⟩;rw [HLL.out];exact own_base HO3.out HK.out.size
 ·have hd:decide (okW l)=false:=by simp [hok]
  rw [hd];have HOK:=Lib.hid hok;clear hok hd;go_wp2_with fail;go_ret2;refine ⟨none,0,0,by rw [lensL_no HOK.out];rfl,by rw [lensE_no HOK.out];rfl,?_,Kp.refl [] w⟩;rw [lensL_no HOK.out];exact ⟨rfl,.inl ⟨rfl,rfl⟩⟩
def okF (l:List Int):Prop:=l.length≤257∧(l=[1] ∨ (2≤l.length∧Dl 0 l))
theorem okF_more {l:List Int} (h2:2≤l.length) (h3:l.length≤257):okF l ↔ procT (l.length:Int) [] l=some [0]:=by
 rw [procT_iff h2]
 constructor
 ·rintro ⟨_,rfl | h⟩
  ·simp at h2
  ·exact h.2
 ·intro h;exact ⟨h3,.inr ⟨h2,h⟩⟩
theorem procT_snoc {m:Int} {l s:List Int} {k:Nat} {x:Int} (h:procT m [] (l.take k)=some s) (hx:l[k]? = some x) (h1:1≤x∧x < m):procT m [] (l.take (k+1))=ins s x:=by
 rw [take_succ_of hx,procT_app,h]
 show procT m s [x]=_
 rw [procT_cons,if_pos h1]
 cases ins s x <;> rfl
theorem procT_bad {m:Int} {l s:List Int} {k:Nat} {x:Int} (h:procT m [] (l.take k)=some s) (hx:l[k]? = some x) (h1:¬ (1≤x∧x < m)):procT m [] l=none:=by
 rw [← List.take_append_drop (k+1) l,procT_app,take_succ_of hx,procT_app,h]
 show (procT m s [x]).bind _=_
 rw [procT_cons,if_neg h1];rfl
theorem procT_none {m:Int} {l:List Int} {k:Nat} (h:procT m [] (l.take k)=none):procT m [] l=none:=by
 rw [← List.take_append_drop k l,procT_app,h];rfl
theorem own_pop {w:World} {base m c:Nat} {e:TypeId} {A:Option Addr} {xs:List Value} {x:Value} (h:w.ownsRow base e 1 (.slice A (m+1) c) (m+1) (xs ++ [x])):w.ownsRow base e 1 (.slice A m c) m xs:=by
 rcases own_blk h with ⟨_,h0,_⟩ | ⟨g,cap,rest,hv,hb,hg,hn,hm,hx,hc⟩
 ·omega
 ·injection hv with h1 h2 h3
  subst h1 h3;rw [List.append_assoc] at hg hc;rw [List.length_append] at hx;exact own_of_blk hg hb (by omega) hm (by simp at hx;omega) hc

open Classical in
set_option maxHeartbeats 2000000 in
theorem tfits_any (A:Option Addr) (n c B:Nat) (l:List Int) (w:World) (hx:Rd w B A (l.map (.int .i64))) (hn:l.length=n) (hb:n≤1000000000) :
  Calls Tryz.prog 112 #[.slice A n c] w fun e w'=>e=.returned (.bool (decide (okF l)))∧Kp [] w w':=by
 obtain ⟨i0,hi,hz0,hz1,hz2⟩:=info_parts Tryz.info_int;have HX:=Lib.hid hx;clear hx;have HN:=Lib.hid hn;clear hn;by_cases h0:n=0
 ·subst h0
  have hf:decide (okF l)=false:=by
   have:¬ okF l:=by
    rintro ⟨_,h | h⟩
    ·have:=HN.out;rw [h] at this;simp at this
    ·have:=HN.out;omega
   simp [this]
  have HF:=Lib.hid hf;clear hf
  go_enter Tryz.func112,Tryz.ntmps112
  go_wp2_with fail;go_ret;exact ⟨by rw [HF.out];rfl,Kp.refl [] w⟩
 by_cases h1:n=1
 ·subst h1;obtain ⟨x,ad,hxk,rfl,_,hcx⟩:=HX.out.ix (i:=0) (by have:=HN.out;omega);rw [addr_add_zero] at hcx
  have hlx:l=[x]:=by
   obtain ⟨y,rfl⟩:=List.length_eq_one_iff.1 HN.out
   simp at hxk
   rw [hxk]
  have hd:decide (okF l)=(x == 1):=by
   rw [hlx]
   have:okF [x] ↔ x=1:=by
    constructor
    ·rintro ⟨_,h | h⟩
     ·simpa using h
     ·simp at h
    ·rintro rfl;exact ⟨by simp,.inl rfl⟩
   by_cases e:x=1
   ·rw [decide_eq_true (this.2 e),e];rfl
   ·rw [decide_eq_false (fun h=>e (this.1 h))];simp [e]
  have HD:=Lib.hid hd;clear hd hlx hxk
  go_enter Tryz.func112,Tryz.ntmps112
  go_wp2_with fail;go_ret;exact ⟨by rw [HD.out];rfl,Kp.refl [] w⟩
 by_cases h2:257 < n
 ·have hf:decide (okF l)=false:=by
   have:¬ okF l:=by
    rintro ⟨h,_⟩;have:=HN.out;omega
   simp [this]
  have HF:=Lib.hid hf;clear hf;have hne:((n:Int) == 1)=false:=by simp;omega
  go_enter Tryz.func112,Tryz.ntmps112
  go_wp2_with fail;go_ret;exact ⟨by rw [HF.out];rfl,Kp.refl [] w⟩
 have hok:=okF_more (l:=l) (by have:=HN.out;omega) (by have:=HN.out;omega);rw [HN.out] at hok;have HOK:=Lib.hid hok;clear hok;have hno:2≤n:=by omega
 clear h0 h1
 go_enter Tryz.func112,Tryz.ntmps112
 go_wp2_with fail
 go_loopw [3,25] (fun y x wr=>∃ (k m c1:Nat) (A1:Option Addr) (s:List Int),x=.int .i64 (k:Int)∧y=.slice A1 m c1∧k≤n∧m≤k∧Hid (s.length=m)∧Hid (procT (n:Int) [] (l.take k)=some s)∧Hid (wr.ownsRow w.heap.size 3 1 (.slice A1 m c1) m (s.reverse.map (.int .i64)))∧Hid (Kp [] w wr)) (fun _ x _=>n - (intOf x).toNat)
 case atStart=>exact ⟨0,0,0,none,[],rfl,rfl,by omega,by omega,Lib.hid rfl,Lib.hid rfl,Lib.hid ⟨rfl,.inl ⟨rfl,rfl⟩⟩,Lib.hid (Kp.refl [] w)⟩
 case round =>
  obtain ⟨k,m,c1,A1,s,rfl,rfl,hk,hmk,HS,HP,HO,HK⟩:=hrel;by_cases hlt:k < n
  ·obtain ⟨x,ad,hxk,rfl,_,hcx⟩:=(HX.out.kp0 HK.out).ix (i:=k) (by have:=HN.out;omega);have HXK:=Lib.hid hxk;clear hxk;by_cases hx1:x < 1
   ·have hf:decide (okF l)=false:=by
     refine decide_eq_false (fun h=>?_);have:=procT_bad HP.out HXK.out (by omega);rw [HOK.out,this] at h
     cases h
    have HF:=Lib.hid hf;clear hf;go_wp2_with fail;go_ret;exact ⟨by rw [HF.out];rfl,HK.out⟩
   ·by_cases hx2:(n:Int)≤x
    ·have hf:decide (okF l)=false:=by
      refine decide_eq_false (fun h=>?_);have:=procT_bad HP.out HXK.out (by omega);rw [HOK.out,this] at h
      cases h
     have HF:=Lib.hid hf;clear hf;go_wp2_with fail;go_ret;exact ⟨by rw [HF.out];rfl,HK.out⟩
    ·have HPS:=Lib.hid (procT_snoc HP.out HXK.out ⟨by omega,by omega⟩);go_wp2_with fail
     go_loopw [3,5] (fun y x' wr'=>∃ (m':Nat) (z:Int) (s':List Int),x'=.int .i64 z∧y=.slice A1 m' c1∧m'≤m∧z - m'=x - m∧Hid (s'.length=m')∧Hid (ins s x=ins s' z)∧Hid (wr.ownsRow w.heap.size 3 1 (.slice A1 m' c1) m' (s'.reverse.map (.int .i64)))∧wr=wr') (fun y _ _=>match y with | .slice _ q _=>q | _=>0)
     case atStart=>exact ⟨m,x,s,rfl,rfl,by omega,by omega,HS,Lib.hid rfl,HO,rfl⟩
     case round =>
      clear HS HO;obtain ⟨m',z,s',rfl,rfl,hm',hz,HS,HI,HO,rfl⟩:=hrel
      cases s' with
      | nil =>
        obtain rfl:m'=0:=by have:=HS.out;simpa using this.symm
        have HNX:=Lib.hid (show procT (n:Int) [] (l.take (k+1))=some [z] by rw [HPS.out,HI.out];rfl)
        go_wp2_with (at_builtin;go_loud (refine wpList_append_rd rfl (.tmp 70) (.tmp 72) 81 rfl w.heap.size 3 i0 (.int .i64 0) 1 8 Tryz.underlying81 hi hz0 hz1 hz2 rfl (by decide) _ 0 _ rfl (HO.out.alloc _) _ _ 1 1 [.int .i64 z] rfl rfl (Rd.new wr _ _ _) (by simp [Value.oneCell']) (by unfold maxLen;omega) (by omega) (by have:=HK.out.size;simp;omega) ?_);intro v2 w2 hown2 hgrow2 hat2)
        obtain ⟨A3,c3,rfl,_⟩:=own_form hown2;exact ⟨⟨k+1,0+1,c3,A3,z :: [],by go_num,rfl,by omega,by omega,Lib.hid rfl,Lib.hid HNX.out,Lib.hid (by rw [List.reverse_cons,List.map_append];exact hown2),Lib.hid ((HK.out.alloc _).grown hgrow2 (fun g hg=>.inr (own_ge HO.out hg).1))⟩,by simp [intOf];omega⟩
      | cons t s' =>
        obtain ⟨p,hp⟩:∃ p,m'=p+1:=⟨s'.length,by have:=HS.out;simpa using this.symm⟩;have hsp:s'.length=p:=by have:=HS.out;simp at this;omega
        obtain ⟨bd,rfl,_,hct⟩:=(own_rd HO.out).at_ (i:=p) (u:=.int .i64 t) (by rw [List.reverse_cons,List.map_append,List.getElem?_append_right (by simp [hsp])];simp [hsp])
        have hc2:m'≤c1:=by
         obtain ⟨A2,c2,hv,hc2,_⟩:=own_form HO.out;injection hv with _ _ hv
         omega
        have hpc:p≤c1:=by omega
        have hpm:p < m':=by omega
        have hm0:0 < m':=by omega
        have hwm:IntKind.i64.wrap ((m':Int) - 1)=(p:Int):=by rw [IntKind.wrap_i64];omega
        have hwz:IntKind.i64.wrap (z - 1)=z - 1:=by rw [IntKind.wrap_i64];omega
        have HPM:=Lib.hid hp;clear hp;have HSP:=Lib.hid hsp;clear hsp;by_cases hte:t=z
        ·have hop:=HO.out;rw [HPM.out,List.reverse_cons,List.map_append] at hop;have HOP:=Lib.hid (own_pop hop);clear hop;have HI2:=Lib.hid (show ins s x=ins s' (z - 1) by rw [HI.out];show (if t=z then _ else _)=_;rw [if_pos hte]);have htb:(t == z)=true:=by simp [hte]
         clear hte;go_wp2_with fail;exact ⟨⟨p,z - 1,s',rfl,rfl,by omega,by have:=HPM.out;omega,HSP,HI2,HOP,trivial⟩,by have:=HPM.out;omega⟩
        ·have htb:(t == z)=false:=by simp [hte]
         by_cases hzt:z < t
         ·have hf:decide (okF l)=false:=by
           refine decide_eq_false (fun h=>?_)
           have e:procT (n:Int) [] (l.take (k+1))=none:=by
            rw [HPS.out,HI.out]
            show (if t=z then _ else if z < t then none else _)=_
            rw [if_neg hte,if_pos hzt]
           have:=procT_none e;rw [HOK.out,this] at h
           cases h
          have HF:=Lib.hid hf;clear hf hte;go_wp2_with fail;go_ret;exact ⟨by rw [HF.out];rfl,HK.out⟩
         ·have HNX:=Lib.hid (show procT (n:Int) [] (l.take (k+1))=some (z :: t :: s') by
           rw [HPS.out,HI.out]
           show (if t=z then _ else if z < t then none else _)=_
           rw [if_neg hte,if_neg hzt])
          clear hte
          go_wp2_with (at_builtin;go_loud (refine wpList_append_rd rfl (.tmp 70) (.tmp 72) 81 rfl w.heap.size 3 i0 (.int .i64 0) 1 8 Tryz.underlying81 hi hz0 hz1 hz2 rfl (by decide) _ m' _ rfl (HO.out.alloc _) _ _ 1 1 [.int .i64 z] rfl rfl (Rd.new wr _ _ _) (by simp [Value.oneCell']) (by unfold maxLen;omega) (by omega) (by have:=HK.out.size;simp;omega) ?_);intro v2 w2 hown2 hgrow2 hat2)
          obtain ⟨A3,c3,rfl,_⟩:=own_form hown2;exact ⟨⟨k+1,m' + 1,c3,A3,z :: t :: s',by go_num,rfl,by omega,by omega,Lib.hid (by have:=HS.out;simpa using this),Lib.hid HNX.out,Lib.hid (by rw [List.reverse_cons,List.map_append];exact hown2),Lib.hid ((HK.out.alloc _).grown hgrow2 (fun g hg=>.inr (own_ge HO.out hg).1))⟩,by simp [intOf];omega⟩
  ·obtain rfl:n=k:=by omega
   have hok:okF l ↔ s=[0]:=by
    rw [HOK.out];have:=HP.out;rw [List.take_of_length_le (by rw [HN.out];exact Nat.le_refl _)] at this;rw [this]
    simp
   have HOS:=Lib.hid hok;clear hok HP;by_cases hm1:m=1
   ·subst hm1;obtain ⟨y,rfl⟩:=List.length_eq_one_iff.1 HS.out;obtain ⟨bd,rfl,_,hct⟩:=(own_rd HO.out).at_ (i:=0) (u:=.int .i64 y) rfl;rw [addr_add_zero] at hct
    have hd:decide (okF l)=(y == 0):=by
     by_cases e:y=0
     ·rw [decide_eq_true (HOS.out.2 (by rw [e])),e];rfl
     ·rw [decide_eq_false (fun h=>e (by have:=HOS.out.1 h;simpa using this))];simp [e]
    have HD:=Lib.hid hd;clear hd;go_wp2_with fail;go_ret;exact ⟨by rw [HD.out];rfl,HK.out⟩
   ·have hf:decide (okF l)=false:=by
     refine decide_eq_false (fun h=>hm1 ?_);have:=HS.out;rw [HOS.out.1 h] at this;simpa using this.symm
    have HF:=Lib.hid hf;clear hf;have hmb:((m:Int) == 1)=false:=by simp;omega
    go_wp2_with fail;go_ret;exact ⟨by rw [HF.out];rfl,HK.out⟩
def rowI (n:Nat) (f:Nat→Nat):List Value:=(List.range n).map fun j=>.int .i64 ((f j:Nat):Int)
theorem rowI_len (n:Nat) (f:Nat→Nat):(rowI n f).length=n:=by simp [rowI]
theorem rowI_get {n j:Nat} (f:Nat→Nat) (h:j < n):(rowI n f)[j]? = some (.int .i64 ((f j:Nat):Int)):=by simp [rowI,h]
theorem rowI_congr {n:Nat} {f g:Nat→Nat} (h:∀ k,k < n→f k=g k):rowI n f=rowI n g:=List.map_congr_left fun k hk=>by rw [h k (List.mem_range.1 hk)]
theorem rowI_set {n j:Nat} (f:Nat→Nat) (a:Nat) (h:j < n):(rowI n f).set j (.int .i64 (a:Int))=rowI n (fun m=>if m=j then a else f m):=by
 apply List.ext_getElem?
 intro i;rw [List.getElem?_set,rowI_len];by_cases hi:j=i
 ·subst hi;rw [if_pos rfl,if_pos h,rowI_get _ h,if_pos rfl]
 ·rw [if_neg hi];by_cases hin:i < n
  ·rw [rowI_get _ hin,rowI_get _ hin,if_neg (by omega)]
  ·rw [List.getElem?_eq_none (by rw [rowI_len];omega),List.getElem?_eq_none (by rw [rowI_len];omega)]
theorem rowI_zero (n:Nat):rowI n (fun _=>0)=List.replicate n (.int .i64 0):=by
 refine List.eq_replicate_iff.2 ⟨rowI_len _ _,fun v hv=>?_⟩;obtain ⟨k,_,rfl⟩:=List.mem_map.1 hv;rfl

structure MatK (w:World) (b G n k:Nat) (R:Nat→Nat) (F:Nat→Nat→Nat):Prop where
 rows:Blk w G 81 ((List.range n).map fun j=>if j < k then .slice (some ⟨R j,0,none⟩) n n else .slice none 0 0)
 row:∀ j,j < k→Blk w (R j) 3 (rowI n (F j))
 apart:∀ i j,i < k→j < k→R i=R j→i=j
 far:b≤G∧∀ j,j < k→b≤R j
section
variable {w w':World} {b G n k:Nat} {R:Nat→Nat} {F:Nat→Nat→Nat}
theorem MatK.kp {S:List Nat} (h:MatK w b G n k R F) (hk:Kp S w w') (hG:G ∉ S) (hR:∀ j,j < k→R j ∉ S):MatK w' b G n k R F:=
 ⟨h.rows.kp hk hG,fun j hj=>(h.row j hj).kp hk (hR j hj),h.apart,h.far⟩
theorem MatK.kp0 (h:MatK w b G n k R F) (hk:Kp [] w w'):MatK w' b G n k R F:=h.kp hk (by simp) (by simp)
theorem MatK.start (hG:b≤G) (h:Blk w G 81 (List.replicate n (.slice none 0 0))):MatK w b G n 0 (fun _=>0) F:=
 ⟨by
  have e:((List.range n).map fun j=>if j < 0 then Value.slice (some ⟨0,0,none⟩) n n else .slice none 0 0)=List.replicate n (.slice none 0 0):=
   List.eq_replicate_iff.2 ⟨by simp,fun v hv=>by
    obtain ⟨k,_,rfl⟩:=List.mem_map.1 hv
    rfl⟩
  rw [e];exact h,fun j h=>by omega,fun i j h=>by omega,hG,fun j h=>by omega⟩
theorem MatK.ne (h:MatK w b G n k R F):∀ j,j < k→R j ≠ G:=fun j hj=>(h.row j hj).ne h.rows (by decide)
theorem MatK.made (h:MatK w b G n k R (fun _ _=>0)) (hk:k < n) (hb:b≤w.heap.size) :
  MatK ((w.alloc (.cells (List.replicate n (.int .i64 0)).toArray 3)).setCell ⟨G,k,none⟩ (.slice (some ⟨w.heap.size,0,none⟩) n n)) b G n (k+1) (fun j=>if j=k then w.heap.size else R j) (fun _ _=>0):=by
 have hGl:=h.rows.lt;rw [← rowI_zero];refine ⟨?_,?_,?_,h.far.1,?_⟩
 ·have h1:=(h.rows.alloc (.cells (rowI n (fun _=>0)).toArray 3)).set_ k (.slice (some ⟨w.heap.size,0,none⟩) n n)
  have e:((List.range n).map fun j=>if j < k then Value.slice (some ⟨R j,0,none⟩) n n else .slice none 0 0).set k (.slice (some ⟨w.heap.size,0,none⟩) n n) =
    (List.range n).map fun j=>if j < k+1 then Value.slice (some ⟨if j=k then w.heap.size else R j,0,none⟩) n n else .slice none 0 0:=by
   apply List.ext_getElem?
   intro i;rw [List.getElem?_set];simp only [List.getElem?_map,List.length_map,List.length_range]
   by_cases hi:k=i
   ·subst hi;rw [if_pos rfl,if_pos hk]
    simp [hk]
   ·rw [if_neg hi];by_cases hin:i < n
    ·simp only [List.getElem?_range hin,Option.map_some,Option.some.injEq]
     by_cases hik:i < k
     ·rw [if_pos hik,if_pos (by omega),if_neg (by omega)]
     ·rw [if_neg hik,if_neg (by omega)]
    ·simp [hin]
  rw [e] at h1;exact h1
 ·intro j hj;by_cases hjk:j=k
  ·subst hjk;rw [if_pos rfl];exact (Blk.new w 3 (rowI n (fun _=>0))).far (p:=⟨G,j,none⟩) (by show w.heap.size ≠ G;omega) _
  ·rw [if_neg hjk];exact ((h.row j (by omega)).alloc _).far (p:=⟨G,k,none⟩) (h.ne j (by omega)) _
 ·intro i j hi hj he;by_cases hik:i=k
  ·by_cases hjk:j=k
   ·omega
   ·rw [if_pos hik,if_neg hjk] at he;have:=(h.row j (by omega)).lt;omega
  ·by_cases hjk:j=k
   ·rw [if_neg hik,if_pos hjk] at he;have:=(h.row i (by omega)).lt;omega
   ·rw [if_neg hik,if_neg hjk] at he;exact h.apart i j (by omega) (by omega) he
 ·intro j hj;by_cases hjk:j=k
  ·rw [if_pos hjk];exact hb
  ·rw [if_neg hjk];exact h.far.2 j (by omega)
theorem MatK.at_ {i j:Nat} (h:MatK w b G n n R F) (hi:i < n) (hj:j < n) :
  w.cell? ⟨G,i,none⟩=some (.slice (some ⟨R i,0,none⟩) n n)∧w.cell? ⟨R i,j,none⟩=some (.int .i64 ((F i j:Nat):Int))∧w.frozen? ⟨R i,j,none⟩=false:=by
 refine ⟨?_,?_,(h.row i hi).free j⟩
 ·rw [h.rows.cell];simp [hi]
 ·rw [(h.row i hi).cell];exact rowI_get _ hj
theorem MatK.put {i j:Nat} (h:MatK w b G n n R F) (hi:i < n) (hj:j < n) (a:Nat) :
  MatK (w.setCell ⟨R i,j,none⟩ (.int .i64 (a:Int))) b G n n R (fun x y=>if x=i∧y=j then a else F x y):=by
 refine ⟨h.rows.far (p:=⟨R i,j,none⟩) (Ne.symm (h.ne i hi)) _,?_,h.apart,h.far⟩;intro x hx;by_cases hxi:x=i
 ·subst hxi;have h2:=(h.row x hx).set_ j (.int .i64 (a:Int));rw [rowI_set _ _ hj] at h2;rw [rowI_congr (g:=fun m=>if m=j then a else F x m) (fun k _=>by simp)];exact h2
 ·have hne:R x ≠ R i:=fun he=>hxi (h.apart x i hx hi he)
  rw [rowI_congr (g:=F x) (fun k _=>by simp [hxi])];exact (h.row x hx).far (p:=⟨R i,j,none⟩) hne _
end

set_option maxHeartbeats 1000000 in
theorem rrow_any (b G n o co cG:Nat) (R:Nat→Nat) (F:Nat→Nat→Nat) (l:List Int) (hn:n≤257) (hF:∀ i j,i < j→j < n→F i j=K (wt l) i j - i):∀ (m i j deep:Nat) (xs:List Int) (w:World),j - i=m→i≤j→j < n→deep+m≤1000→MatK w b G n n R F →
  (∀ k,k < n→R k ≠ o)→Blk w o 3 (xs.map (.int .i64))→xs.length=n →
  Calls Tryz.prog 139 #[.slice (some ⟨G,0,none⟩) n cG,.slice (some ⟨o,0,none⟩) n co,.int .i64 i,.int .i64 j,.int .i64 deep] w fun e w'=>e=.returned (.tuple #[])∧Blk w' o 3 ((laidAt xs i (lens (wt l) i j deep)).map (.int .i64))∧Kp [o] w w':=by
 intro m
 induction m using Nat.strongRecOn with
 | ind m ih =>
   intro i j deep xs w hm hij hj hdp ht hro ho hxl;have IH:=Lib.hid ih;clear ih;have HT:=Lib.hid ht;clear ht;have HRO:=Lib.hid hro;clear hro;have HM:=Lib.hid hm;clear hm;have HO:=Lib.hid ho;clear ho;have HXL:=Lib.hid hxl;clear hxl;rcases Nat.eq_or_lt_of_le hij with hij | hlt
   ·subst hij;obtain ⟨u,_,hc⟩:=HO.out.ix (i:=i) (by rw [List.length_map,HXL.out];exact hj);have hf:=HO.out.free i
    go_enter Tryz.func139,Tryz.ntmps139
    go_wp2_with fail;refine bodyPost_ret (results_none rfl _ _ _) rfl ⟨rfl,?_,(Kp.refl [o] w).setCell (.inl (by simp)) _⟩;rw [lens_self,laidAt_one _ (by rw [HXL.out];exact hj),List.map_set];exact HO.out.set_ i _
   ·obtain ⟨c1,c2,_⟩:=HT.out.at_ (i:=i) (j:=j) (by omega) hj;rw [hF i j hlt hj] at c2;have hKb:=K_bound (wt l) hlt;obtain ⟨q,hq⟩:∃ q,q=K (wt l) i j - i:=⟨_,rfl⟩;rw [← hq] at c2;obtain ⟨k,hk⟩:∃ k,k=K (wt l) i j:=⟨_,rfl⟩;obtain ⟨k1,hk1⟩:∃ k1,k=k1+1:=⟨k - 1,by omega⟩;have hw1:IntKind.i64.wrap ((i:Int)+(q:Int))=(k:Int):=by rw [IntKind.wrap_i64];omega
    have hw2:IntKind.i64.wrap ((k:Int) - 1)=(k1:Int):=by rw [IntKind.wrap_i64];omega
    have hwd:IntKind.i64.wrap ((deep:Int)+1)=((deep+1:Nat):Int):=by rw [IntKind.wrap_i64];omega
    have hin:i < n:=by omega
    have hne:((i:Int) == (j:Int))=false:=by simp;omega
    have HKC:=Lib.hid (show lens (wt l) i j deep=lens (wt l) i k1 (deep+1) ++ lens (wt l) k j (deep+1) by rw [lens_cut _ _ hlt,← hk,hk1];rfl);have HB:=Lib.hid (show i≤k1∧k1 < j∧k1+1=k∧k≤j by omega);clear hk1 hk hq hKb
    go_enter Tryz.func139,Tryz.ntmps139
    go_wp2_with fail;refine (IH.out (k1 - i) (by have:=HM.out;have:=HB.out;omega) i k1 (deep+1) xs w rfl HB.out.1 (by have:=HB.out;omega) (by have:=HM.out;have:=HB.out;omega) HT.out HRO.out HO.out HXL.out).mono ?_;rintro e w1 ⟨rfl,ho1,hkp1⟩;have hl1:(lens (wt l) i k1 (deep+1)).length=k1 - i+1:=lens_len _ _ _ _ _ rfl HB.out.1;have hl2:(lens (wt l) k j (deep+1)).length=j - k+1:=lens_len _ _ _ _ _ rfl HB.out.2.2.2;have HL1:=Lib.hid hl1;clear hl1;have HL2:=Lib.hid hl2;clear hl2;have HO1:=Lib.hid ho1;clear ho1;have HP1:=Lib.hid hkp1;clear hkp1;have HT1:=Lib.hid (HT.out.kp HP1.out (by simp only [List.mem_singleton];exact HT.out.rows.ne HO.out (by decide)) (by simp only [List.mem_singleton];exact HRO.out));go_wp2_with fail;refine (IH.out (j - k) (by have:=HM.out;have:=HB.out;omega) k j (deep+1) (laidAt xs i (lens (wt l) i k1 (deep+1))) w1 rfl HB.out.2.2.2 hj (by have:=HM.out;have:=HB.out;omega) HT1.out HRO.out HO1.out (by rw [laidAt_len (by rw [HL1.out,HXL.out];have:=HB.out;omega),HXL.out])).mono ?_;rintro e w2 ⟨rfl,ho2,hkp2⟩;rw [laidAt_two (by rw [HL1.out];have:=HB.out;omega) (by rw [HL1.out,HL2.out,HXL.out];have:=HB.out;omega),← HKC.out] at ho2;have HO2:=Lib.hid ho2;clear ho2;have HP2:=Lib.hid (HP1.out.trans hkp2);clear hkp2;go_wp2_with fail
    go_end0
    exact ⟨rfl,HO2.out,HP2.out⟩
end Go.Proofs.YtanacapkfllbnaaGreatDoor
namespace Go.Proofs.YtanacapkfllbnaaGreatDoor
open Go.RowKit

structure Two (w:World) (b Gc Gp n k:Nat) (Rc Rp:Nat→Nat) (F H:Nat→Nat→Nat):Prop where
 c:MatK w b Gc n k Rc F
 p:MatK w b Gp n k Rp H
 gs:Gc ≠ Gp
 rs:∀ i j,i < k→j < k→Rc i ≠ Rp j
section
variable {w w':World} {b Gc Gp n k:Nat} {Rc Rp:Nat→Nat} {F H:Nat→Nat→Nat}
theorem Two.kp0 (h:Two w b Gc Gp n k Rc Rp F H) (hk:Kp [] w w'):Two w' b Gc Gp n k Rc Rp F H:=⟨h.c.kp0 hk,h.p.kp0 hk,h.gs,h.rs⟩
theorem Two.made (h:Two w b Gc Gp n k Rc Rp (fun _ _=>0) (fun _ _=>0)) (hk:k < n) (hb:b≤w.heap.size) {w1 w2:World}
  (h1:w1=(w.alloc (.cells (List.replicate n (.int .i64 0)).toArray 3)).setCell ⟨Gc,k,none⟩ (.slice (some ⟨w.heap.size,0,none⟩) n n))
  (h2:w2=(w1.alloc (.cells (List.replicate n (.int .i64 0)).toArray 3)).setCell ⟨Gp,k,none⟩ (.slice (some ⟨w1.heap.size,0,none⟩) n n)) :
  Two w2 b Gc Gp n (k+1) (fun j=>if j=k then w.heap.size else Rc j) (fun j=>if j=k then w1.heap.size else Rp j) (fun _ _=>0) (fun _ _=>0):=by
 have hk1:Kp [Gc] w w1:=by rw [h1];exact ((Kp.refl [Gc] w).alloc _).setCell (.inl (by simp)) _
 have hk2:Kp [Gp] w1 w2:=by rw [h2];exact ((Kp.refl [Gp] w1).alloc _).setCell (.inl (by simp)) _
 have hs1:w1.heap.size=w.heap.size+1:=by rw [h1];simp
 have c1:=h.c.made hk hb;rw [← h1] at c1;have p1:=h.p.kp hk1 (by simp;exact Ne.symm h.gs) (fun j hj=>by simp;exact (h.p.row j hj).ne h.c.rows (by decide));have p2:=p1.made hk (by omega);rw [← h2] at p2;refine ⟨c1.kp hk2 (by simp;exact h.gs) (fun j hj=>by simp only [List.mem_singleton];exact (c1.row j hj).ne p1.rows (by decide)),p2,h.gs,?_⟩;intro i j hi hj;by_cases hik:i=k
 ·by_cases hjk:j=k
  ·rw [if_pos hik,if_pos hjk];omega
  ·rw [if_pos hik,if_neg hjk];have:=(h.p.row j (by omega)).lt;omega
 ·by_cases hjk:j=k
  ·rw [if_neg hik,if_pos hjk];have:=(h.c.row i (by omega)).lt;omega
  ·rw [if_neg hik,if_neg hjk];exact h.rs i j (by omega) (by omega)
theorem Two.put (h:Two w b Gc Gp n n Rc Rp F H) {i j:Nat} (hi:i < n) (hj:j < n) (a c:Nat) :
  Two ((w.setCell ⟨Rc i,j,none⟩ (.int .i64 (a:Int))).setCell ⟨Rp i,j,none⟩ (.int .i64 (c:Int))) b Gc Gp n n Rc Rp (fun x y=>if x=i∧y=j then a else F x y) (fun x y=>if x=i∧y=j then c else H x y):=by
 have c1:=h.c.put hi hj a;have k1:Kp [Rc i] w (w.setCell ⟨Rc i,j,none⟩ (.int .i64 (a:Int))):=(Kp.refl _ w).setCell (.inl (by simp)) _;have p1:=h.p.kp k1 (by simp only [List.mem_singleton];exact Ne.symm ((h.c.row i hi).ne h.p.rows (by decide))) (fun x hx=>by simp only [List.mem_singleton];exact Ne.symm (h.rs i x hi hx));have p2:=p1.put hi hj c;have k2:Kp [Rp i] (w.setCell ⟨Rc i,j,none⟩ (.int .i64 (a:Int))) ((w.setCell ⟨Rc i,j,none⟩ (.int .i64 (a:Int))).setCell ⟨Rp i,j,none⟩ (.int .i64 (c:Int))):=(Kp.refl _ _).setCell (.inl (by simp)) _;exact ⟨c1.kp k2 (by simp only [List.mem_singleton];exact Ne.symm ((h.p.row i hi).ne h.c.rows (by decide))) (fun x hx=>by simp only [List.mem_singleton];exact h.rs x i hx hi),p2,h.gs,h.rs⟩
end

def Done (l:List Int) (n long at_:Nat) (F H:Nat→Nat→Nat):Prop:=∀ a b,a≤b→b < n→(b - a+1 < long ∨ (b - a+1=long∧a < at_))→F a b=C (wt l) a b∧(a < b→H a b=K (wt l) a b - a)

theorem Best.zero {f:Nat→Nat} {lo cur:Nat} {a b:Int} (h:Best f lo cur a b) (hc:cur≤lo):a < 0:=by
 rcases h with ⟨_,rfl,_⟩ | ⟨h,_⟩
 ·omega
 ·omega
theorem Best.some {f:Nat→Nat} {lo cur:Nat} {a b:Int} (h:Best f lo cur a b) (hc:lo < cur):0≤a:=by
 rcases h with ⟨h,_⟩ | ⟨_,k,_,_,rfl,_⟩
 ·omega
 ·omega
theorem Done.start (l:List Int) (n:Nat):Done l n 2 0 (fun _ _=>0) (fun _ _=>0):=by
 intro a b h1 h2 h3;obtain rfl:a=b:=by omega
 exact ⟨(C_self _ _).symm,fun h=>by omega⟩
theorem Done.next {l:List Int} {n long at_:Nat} {F H:Nat→Nat→Nat} (h:Done l n long at_ F H) (ha:n < at_+long):Done l n (long+1) 0 F H:=fun a b h1 h2 h3=>h a b h1 h2 (by omega)
theorem Done.put {l:List Int} {n long at_ j a c:Nat} {F H:Nat→Nat→Nat} (h:Done l n long at_ F H) (hj:at_+long=j+1):Done l n long at_ (fun x y=>if x=at_∧y=j then a else F x y) (fun x y=>if x=at_∧y=j then c else H x y):=by
 intro x y h1 h2 h3;have hn:¬ (x=at_∧y=j):=by omega
 dsimp only
 rw [if_neg hn,if_neg hn];exact h x y h1 h2 h3
theorem Done.step {l:List Int} {n long at_ j:Nat} {F H:Nat→Nat→Nat} (h:Done l n long at_ F H) (hj:at_+long=j+1) (hF:F at_ j=C (wt l) at_ j) (hH:H at_ j=K (wt l) at_ j - at_):Done l n long (at_+1) F H:=by
 intro x y h1 h2 h3;by_cases e:x=at_∧y=j
 ·obtain ⟨rfl,rfl⟩:=e;exact ⟨hF,fun _=>hH⟩
 ·exact h x y h1 h2 (by omega)
theorem Tryz.info_rowI:(Tryz.prog.info? 81).map (fun i=>(i.zero,i.size,i.bytes))=some (some (.slice none 0 0),1,24):=by kernel_rfl

open Classical in
set_option maxHeartbeats 2000000 in
theorem rlengths_any (A:Option Addr) (n c B:Nat) (l:List Int) (w:World) (hx:Rd w B A (l.map (.int .i64))) (hn:l.length=n) (hb:n≤1000000000) :
  Calls Tryz.prog 88 #[.slice A n c] w fun e w'=>∃ A' m c',m=(lensL l).length∧e=.returned (.tuple #[.slice A' m c',.int .i64 (lensE l)])∧w'.ownsRow w.heap.size 3 1 (.slice A' m c') m ((lensL l).map (.int .i64))∧Kp [] w w':=by
 obtain ⟨i0,hi,hz0,hz1,hz2⟩:=info_parts Tryz.info_rowI;obtain ⟨i1,hi',hy0,hy1,hy2⟩:=info_parts Tryz.info_int;have HX:=Lib.hid hx;clear hx;have HN:=Lib.hid hn;clear hn
 go_enter Tryz.func88,Tryz.ntmps88
 go_wp2_with fail;refine (rweights_any A n c B l w HX.out HN.out hb).mono ?_;rintro e w1 ⟨rfl,hd1⟩;have HK1:=Lib.hid (hd1.kp []);clear hd1;by_cases hok:okW l
 ·have hd:decide (okW l)=true:=by simp [hok]
  rw [hd];have HOK:=Lib.hid hok;clear hok hd;by_cases h1:n=1
  ·subst h1;go_wp2_with fail;go_ret2;refine ⟨some ⟨w1.heap.size,0,none⟩,1,1,by rw [lensL_one HOK.out HN.out];rfl,by rw [lensE_ok HOK.out];rfl,?_,HK1.out.alloc _⟩;rw [lensL_one HOK.out HN.out];exact own_of_blk (xs:=[.int .i64 1]) (rest:=[]) (Blk.new w1 3 [.int .i64 1]) HK1.out.size (Nat.le_refl _) (by unfold maxLen;omega) rfl rfl
  ·have hn1:((n:Int) == 1)=false:=by simp;omega
   have hn257:n≤257:=by have:=HOK.out.2.2;have:=HN.out;omega
   have hn2:2≤n:=by have:=HOK.out.2.1;have:=HN.out;omega
   have hm1:=run_make_list (P:=Tryz.prog) 205 81 i0 (.slice none 0 0) Tryz.underlying205 hi hz0 hz1 rfl .i64 .i64 n (by rw [hz2];omega) (by omega);have hm2:=run_make_list (P:=Tryz.prog) 81 3 i1 (.int .i64 0) Tryz.underlying81 hi' hy0 hy1 rfl .i64 .i64 n (by rw [hy2];omega) (by omega);clear hi hz0 hz1 hz2 hi' hy0 hy1 hy2 h1
   have HT0:=Lib.hid (show Two ((w1.alloc (.cells (Array.replicate n (.slice none 0 0)) 81)).alloc (.cells (Array.replicate n (.slice none 0 0)) 81)) w.heap.size w1.heap.size (w1.heap.size+1) n 0 (fun _=>0) (fun _=>0) (fun _ _=>0) (fun _ _=>0) from by
    have b1:=Blk.new w1 81 (List.replicate n (.slice none 0 0));have b2:=Blk.new (w1.alloc (.cells (List.replicate n (.slice none 0 0)).toArray 81)) 81 (List.replicate n (.slice none 0 0));have e:(w1.alloc (.cells (List.replicate n (.slice none 0 0)).toArray 81)).heap.size=w1.heap.size+1:=by simp
    rw [e] at b2;have hs:=HK1.out.size;refine ⟨MatK.start hs ?_,MatK.start (by omega) ?_,by omega,fun i j h=>by omega⟩
    ·simpa using b1.alloc (.cells (List.replicate n (.slice none 0 0)).toArray 81)
    ·simpa using b2)
   go_wp2_with fail
   go_loopw [7] (fun x wr=>∃ (k:Nat) (Rc Rp:Nat→Nat),x=.int .i64 (k:Int)∧k≤n∧Hid (Two wr w.heap.size w1.heap.size (w1.heap.size+1) n k Rc Rp (fun _ _=>0) (fun _ _=>0))∧Hid (Kp [] w wr)) (fun x _=>n - (intOf x).toNat)
   case atStart=>exact ⟨0,_,_,rfl,by omega,HT0,Lib.hid ((HK1.out.alloc _).alloc _)⟩
   case round =>
    obtain ⟨k,Rc,Rp,rfl,hk,HT,HK⟩:=hrel;by_cases hlt:k < n
    ·have hal:=HT.out.c.rows.kp0 ((Kp.refl [] wr).alloc (.cells (Array.replicate n (.int .i64 0)) 3));have c1:(wr.alloc (.cells (Array.replicate n (.int .i64 0)) 3)).cell? ⟨w1.heap.size,k,none⟩=some (.slice none 0 0):=by rw [hal.cell];simp [hlt]
     have f1:=hal.free k;have hka:Kp [w1.heap.size] wr (((wr.alloc (.cells (Array.replicate n (.int .i64 0)) 3)).setCell ⟨w1.heap.size,k,none⟩ (.slice (some ⟨wr.heap.size,0,none⟩) n n)).alloc (.cells (Array.replicate n (.int .i64 0)) 3)):=(((Kp.refl _ wr).alloc _).setCell (.inl (by simp)) _).alloc _;have hpr:=HT.out.p.rows.kp hka (by simp);have c2:(((wr.alloc (.cells (Array.replicate n (.int .i64 0)) 3)).setCell ⟨w1.heap.size,k,none⟩ (.slice (some ⟨wr.heap.size,0,none⟩) n n)).alloc (.cells (Array.replicate n (.int .i64 0)) 3)).cell? ⟨w1.heap.size+1,k,none⟩=some (.slice none 0 0):=by rw [hpr.cell];simp [hlt]
     have f2:=hpr.free k;clear hal;clear hpr hka;go_wp2_with fail;exact ⟨⟨k+1,fun j=>if j=k then wr.heap.size else Rc j,fun j=>if j=k then wr.heap.size+1 else Rp j,by go_num,by omega,Lib.hid (by have hM:=HT.out.made hlt HK.out.size rfl rfl;simpa using hM),Lib.hid ((((HK.out.alloc _).setCell (.inr HT.out.c.far.1) _).alloc _).setCell (.inr HT.out.p.far.1) _)⟩,by simp [intOf];omega⟩
    ·obtain rfl:n=k:=by omega
     clear HT0;go_wp2_with fail
     go_loopw [8] (fun x wr=>∃ (long:Nat) (F H:Nat→Nat→Nat),x=.int .i64 (long:Int)∧2≤long∧long≤n+1∧Hid (Done l n long 0 F H)∧Hid (Two wr w.heap.size w1.heap.size (w1.heap.size+1) n n Rc Rp F H)∧Hid (Kp [] w wr)) (fun x _=>n+1 - (intOf x).toNat)
     case atStart=>exact ⟨2,_,_,rfl,by omega,by omega,Lib.hid (Done.start l n),HT,HK⟩
     case round =>
      clear HT HK;obtain ⟨long,F,H,rfl,hl2,hln,HF,HT,HK⟩:=hrel;by_cases hll:long≤n
      ·go_wp2_with fail
       go_loopw [9] (fun x wr=>∃ (i:Nat) (F H:Nat→Nat→Nat),x=.int .i64 (i:Int)∧i+long≤n+1∧Hid (Done l n long i F H)∧Hid (Two wr w.heap.size w1.heap.size (w1.heap.size+1) n n Rc Rp F H)∧Hid (Kp [] w wr)) (fun x _=>n+1 - (intOf x).toNat)
       case atStart=>exact ⟨0,F,H,rfl,by omega,HF,HT,HK⟩
       case round =>
        clear HF HT HK;obtain ⟨i,F,H,rfl,hil,HF,HT,HK⟩:=hrel;obtain ⟨j1,hj1⟩:∃ j1,j1=i+long:=⟨_,rfl⟩;have hwj:IntKind.i64.wrap ((i:Int)+(long:Int))=(j1:Int):=by rw [IntKind.wrap_i64];omega
        by_cases hile:j1≤n
        ·obtain ⟨j,hj⟩:∃ j,j1=j+1:=⟨j1 - 1,by omega⟩;have hwj2:IntKind.i64.wrap ((j1:Int) - 1)=(j:Int):=by rw [IntKind.wrap_i64];omega
         have HJ:=Lib.hid (show i+long=j+1 by omega);have HJN:=Lib.hid (show j < n∧i < j by omega);have HJ1:=Lib.hid hj;clear hj;have HJL:=Lib.hid hj1;clear hj1;go_wp2_with fail
         go_loopw [11,12] (fun y x wr'=>∃ c:Nat,x=.int .i64 (c:Int)∧i≤c∧c≤j+1∧y=.int .i64 ((pre (wt l) c - pre (wt l) i:Nat):Int)∧wr=wr') (fun _ x _=>n+1 - (intOf x).toNat)
         case atStart=>exact ⟨i,rfl,by omega,by have:=HJN.out;omega,by rw [Nat.sub_self];rfl,rfl⟩
         case round =>
          obtain ⟨c2,rfl,hc1,hc2,rfl,rfl⟩:=hrel;by_cases hcj:c2≤j
          ·obtain ⟨x,ad,hxk,rfl,_,hcx⟩:=(HX.out.kp0 HK.out).ix (i:=c2) (by have:=HN.out;have:=HJN.out;omega);obtain ⟨v,hv,hvb⟩:∃ v,v=wt l c2∧v≤4294967296:=⟨_,rfl,wt_le HOK.out.1 c2⟩;have hxv:=wt_get HOK.out.1 hxk;rw [← hv] at hxv;subst hxv;obtain ⟨u,hu⟩:∃ u,u=pre (wt l) c2 - pre (wt l) i:=⟨_,rfl⟩
           have hub:u≤258 * 4294967296:=by
            have h1:=pre_le HOK.out.1 c2;have h2:c2 * 4294967296≤258 * 4294967296:=Nat.mul_le_mul_right _ (by have:=HJN.out;omega);omega
           have hnx:u+v=pre (wt l) (c2+1) - pre (wt l) i:=by
            have h1:=pre_mono (wt l) hc1;simp only [pre]
            omega
           rw [← hu];have HNX:=Lib.hid hnx;clear hnx hu hv hxk;have hcn:c2 < n:=by have:=HJN.out;omega
           go_wp2_with fail;exact ⟨⟨c2+1,by go_num,by omega,by omega,by rw [← HNX.out];go_num,trivial⟩,by simp [intOf];have:=HJN.out;omega⟩
          ·obtain rfl:c2=j+1:=by omega
           obtain ⟨sv,hsv⟩:∃ sv,sv=pre (wt l) (j+1) - pre (wt l) i:=⟨_,rfl⟩
           have hsb:sv≤258 * 4294967296:=by
            have h1:=pre_le HOK.out.1 (j+1);have h2:(j+1) * 4294967296≤258 * 4294967296:=Nat.mul_le_mul_right _ (by have:=HJN.out;omega);omega
           rw [← hsv];have HSV:=Lib.hid (show sv=S (wt l) i j from hsv);clear hsv;go_wp2_with fail
           go_loopw [13] (fun x wr=>∃ (k:Nat) (F H:Nat→Nat→Nat) (a b:Int),x=.int .i64 (k:Int)∧1≤k∧k≤long∧Hid (Best (spc (wt l) i j) (i+1) (i+k) a b)∧Hid (1 < k→((F i j:Nat):Int)=(sv:Int)+a∧((H i j:Nat):Int)=b - i)∧Hid (Done l n long i F H)∧Hid (Two wr w.heap.size w1.heap.size (w1.heap.size+1) n n Rc Rp F H)∧Hid (Kp [] w wr)) (fun x _=>n+1 - (intOf x).toNat)
           case atStart=>exact ⟨1,F,H,-1,0,rfl,by omega,by omega,Lib.hid (.inl ⟨rfl,rfl,rfl⟩),Lib.hid (fun h=>by omega),HF,HT,HK⟩
           case round =>
            clear HF HT HK;obtain ⟨k,F,H,a,b,rfl,hk1,hk2,HB,HV,HF,HT,HK⟩:=hrel;by_cases hkl:k < long
            ·obtain ⟨p,hp⟩:∃ p,p=i+k:=⟨_,rfl⟩;obtain ⟨p1,hp1⟩:∃ p1,p=p1+1:=⟨p - 1,by omega⟩;have hwp:IntKind.i64.wrap ((i:Int)+(k:Int))=(p:Int):=by rw [IntKind.wrap_i64];omega
             have hwp1:IntKind.i64.wrap ((p:Int) - 1)=(p1:Int):=by rw [IntKind.wrap_i64];omega
             have HPP:=Lib.hid (show i < p∧p≤j∧p=p1+1∧p=i+k by have:=HJ.out;omega);clear hp hp1;have hin:i < n:=by have:=HJN.out;omega
             have hjn:j < n:=HJN.out.1;have hpn:p < n:=by have:=HPP.out;omega
             have hp1n:p1 < n:=by have:=HPP.out;omega
             obtain ⟨c1,c3,_⟩:=HT.out.c.at_ (i:=i) (j:=p1) hin hp1n;obtain ⟨d1,d3,_⟩:=HT.out.c.at_ (i:=p) (j:=j) hpn hjn;obtain ⟨_,e3,e4⟩:=HT.out.c.at_ (i:=i) (j:=j) hin hjn;rw [(HF.out i p1 (by have:=HPP.out;omega) hp1n (by have:=HPP.out;omega)).1] at c3;rw [(HF.out p j (by have:=HPP.out;omega) hjn (by have:=HPP.out;have:=HJ.out;omega)).1] at d3;have hb1:=C_bound (wt l) _ i p1 rfl (by have:=HPP.out;omega);have hb2:=C_bound (wt l) _ p j rfl (by have:=HPP.out;omega);have hp1':=pre_le HOK.out.1 (p1+1);have hp2':=pre_le HOK.out.1 (j+1);have hsp:spc (wt l) i j p=C (wt l) i p1+C (wt l) p j:=by unfold spc;rw [HPP.out.2.2.1];rfl
             obtain ⟨ca,hca⟩:∃ ca,ca=C (wt l) i p1:=⟨_,rfl⟩;obtain ⟨cb,hcb⟩:∃ cb,cb=C (wt l) p j:=⟨_,rfl⟩;rw [← hca] at c3 hb1 hsp;rw [← hcb] at d3 hb2 hsp;have hla:ca≤257 * (258 * 4294967296):=Nat.le_trans hb1 (Nat.mul_le_mul (by omega) (Nat.le_trans hp1' (Nat.mul_le_mul_right _ (by omega))));have hlb:cb≤257 * (258 * 4294967296):=Nat.le_trans hb2 (Nat.mul_le_mul (by omega) (Nat.le_trans hp2' (Nat.mul_le_mul_right _ (by omega))));obtain ⟨cn,hcn⟩:∃ cn,cn=sv+ca+cb:=⟨_,rfl⟩;have hw3:IntKind.i64.wrap ((sv:Int)+(ca:Int))=(sv:Int)+(ca:Int):=by rw [IntKind.wrap_i64];omega
             have hw4:IntKind.i64.wrap ((sv:Int)+(ca:Int)+(cb:Int))=(cn:Int):=by rw [IntKind.wrap_i64];omega
             obtain ⟨old,hold⟩:∃ old,old=F i j:=⟨_,rfl⟩;rw [← hold] at e3;have HCN:=Lib.hid (show (cn:Int)=(sv:Int)+((spc (wt l) i j p:Nat):Int) by rw [hsp];omega);have HOLD:=Lib.hid hold;clear hold;clear hca hcb hb1 hb2 hp1' hp2' hsp hcn hla hlb;go_wp2_with fail
             go_quiet (fail)
             have hT1:=HT.out.kp0 ((Kp.refl [] wr).drewN nq);have kq:Kp [Rc i] (wr.drewN nq) ((wr.drewN nq).setCell ⟨Rc i,j,none⟩ (.int .i64 (cn:Int))):=(Kp.refl _ _).setCell (.inl (by simp)) _;have hTp:=hT1.p.kp kq (by simp only [List.mem_singleton];exact Ne.symm ((hT1.c.row i hin).ne hT1.p.rows (by decide))) (fun x hx=>by simp only [List.mem_singleton];exact Ne.symm (hT1.rs i x hin hx));obtain ⟨g1,g3,g4⟩:=hTp.at_ (i:=i) (j:=j) hin hjn;have HPUT:=Lib.hid (hT1.put hin hjn cn k);have HFR:=Lib.hid (show w.heap.size≤Rc i∧w.heap.size≤Rp i from ⟨hT1.c.far.2 i hin,hT1.p.far.2 i hin⟩);clear hTp kq hT1;have hBe:=HB.out;rw [← HPP.out.2.2.2] at hBe;have HBE:=Lib.hid hBe;clear hBe HB;by_cases hk1':k=1
             ·have hke:((k:Int) == 1)=true:=by simp;omega
              have hT:=HBE.out.takes (by have:=HPP.out;omega) (.inl (HBE.out.zero (by have:=HPP.out;omega)));rw [show p+1=i+(k+1) from by have:=HPP.out;omega] at hT;have HTK:=Lib.hid hT;clear hT;have HK11:=Lib.hid hk1';clear hk1';go_wp2_with fail;have hT:=HTK.out;refine ⟨⟨k+1,_,_,((spc (wt l) i j p:Nat):Int),(p:Int),by go_num,by omega,by omega,Lib.hid hT,Lib.hid (fun _=>?_),Lib.hid (HF.out.put HJ.out),HPUT,Lib.hid (((HK.out.drewN _).setCell (.inr HFR.out.1) _).setCell (.inr HFR.out.2) _)⟩,by simp [intOf];omega⟩;rw [if_pos ⟨rfl,rfl⟩,if_pos ⟨rfl,rfl⟩];exact ⟨HCN.out,by have:=HPP.out;omega⟩
             ·have hke:((k:Int) == 1)=false:=by simp;omega
              have HV1:=Lib.hid (HV.out (by omega));by_cases hlt2:cn < old
              ·have hT:=HBE.out.takes (by have:=HPP.out;omega) (.inr (by have:=HV1.out.1;have:=HOLD.out;have:=HCN.out;omega));rw [show p+1=i+(k+1) from by have:=HPP.out;omega] at hT;have HTK:=Lib.hid hT;clear hT;go_wp2_with fail;have hT:=HTK.out;refine ⟨⟨k+1,_,_,((spc (wt l) i j p:Nat):Int),(p:Int),by go_num,by omega,by omega,Lib.hid hT,Lib.hid (fun _=>?_),Lib.hid (HF.out.put HJ.out),HPUT,Lib.hid (((HK.out.drewN _).setCell (.inr HFR.out.1) _).setCell (.inr HFR.out.2) _)⟩,by simp [intOf];omega⟩;rw [if_pos ⟨rfl,rfl⟩,if_pos ⟨rfl,rfl⟩];exact ⟨HCN.out,by have:=HPP.out;omega⟩
              ·have hT:=HBE.out.keeps (by have:=HV1.out.1;have:=HOLD.out;have:=HCN.out;have:=HBE.out.some (by have:=HPP.out;omega);omega);rw [show p+1=i+(k+1) from by have:=HPP.out;omega] at hT;have HTK:=Lib.hid hT;clear hT;go_wp2_with fail;exact ⟨⟨k+1,F,H,a,b,by go_num,by omega,by omega,HTK,Lib.hid (fun _=>HV1.out),HF,Lib.hid (HT.out.kp0 ((Kp.refl [] wr).drewN nq)),Lib.hid (HK.out.drewN _)⟩,by simp [intOf];omega⟩
            ·obtain rfl:k=long:=by omega
             have hBd:=HB.out;rw [HJ.out] at hBd;have hKb:=K_bound (wt l) HJN.out.2;obtain ⟨ea,eb⟩:=hBd.done (p:=K (wt l) i j) (by omega) (by omega) (fun q h1 h2=>K_min (wt l) (by omega) (by omega)) (fun q h1 h2=>K_first (wt l) (by omega) HJN.out.2 h2);have hV:=HV.out (by omega);have hCe:=C_eq (wt l) HJN.out.2;have hsv:=HSV.out;have hDS:=Lib.hid (HF.out.step HJ.out (by rw [hCe,← hsv];have:=hV.1;unfold spc at ea;omega) (by have:=hV.2;omega));have HEND:=Lib.hid (show i+1+k≤n+1 by have:=HJ.out;have:=HJN.out;omega);clear ea eb hV hCe hsv hBd hKb;go_wp2_with fail;exact ⟨⟨i+1,F,H,by go_num,HEND.out,hDS,HT,HK⟩,by simp [intOf];omega⟩
        ·have hN:=Lib.hid (HF.out.next (by omega));go_wp2_with fail;exact ⟨⟨long+1,F,H,by go_num,by omega,by omega,hN,HT,HK⟩,by simp [intOf];omega⟩
      ·obtain rfl:long=n+1:=by omega
       have HDN:=Lib.hid (show ∀ a b,a < b→b < n→H a b=K (wt l) a b - a from fun a b q1 q2=>(HF.out a b (by omega) q2 (by omega)).2 q1);obtain ⟨p,hp⟩:∃ p,n=p+1:=⟨n - 1,by omega⟩;have hwp:IntKind.i64.wrap ((n:Int) - 1)=(p:Int):=by rw [IntKind.wrap_i64];omega
       have HP:=Lib.hid hp;clear hp;go_wp2_with fail;have HTA:=Lib.hid (HT.out.kp0 ((Kp.refl [] wr).alloc (.cells (Array.replicate n (.int .i64 0)) 3)));have hbn:Blk (wr.alloc (.cells (Array.replicate n (.int .i64 0)) 3)) wr.heap.size 3 ((List.replicate n (0:Int)).map (.int .i64)):=by simpa using Blk.new wr 3 (List.replicate n (.int .i64 0))
       refine (rrow_any w.heap.size (w1.heap.size+1) n wr.heap.size n n Rp H l hn257 HDN.out p 0 p 0 (List.replicate n 0) _ rfl (by omega) (by have:=HP.out;omega) (by have:=HP.out;omega) HTA.out.p (fun x hx=>by have:=(HT.out.p.row x hx).lt;omega) hbn (by simp)).mono ?_;rintro e w2 ⟨rfl,hb2,hk2⟩;have hll:lens (wt l) 0 p 0=lensL l:=by rw [lensL_more HOK.out (by have:=HN.out;have:=HP.out;omega),HN.out,HP.out];rfl
       have hlen:(lensL l).length=n:=by rw [lensL_len HOK.out,HN.out]
       rw [hll,laidAt_all (by rw [hlen];simp)] at hb2;have HB2:=Lib.hid hb2;clear hb2;have HLEN:=Lib.hid hlen;clear hlen hll;have HK2:=Lib.hid ((HK.out.alloc (.cells (Array.replicate n (.int .i64 0)) 3)).trans' hk2 (by intro g hg;simp only [List.mem_singleton] at hg;subst hg;exact .inr HK.out.size));clear hk2;go_wp2_with fail;go_ret2;refine ⟨some ⟨wr.heap.size,0,none⟩,n,n,HLEN.out.symm,by rw [lensE_ok HOK.out];rfl,?_,HK2.out⟩;exact own_of_blk (xs:=(lensL l).map (.int .i64)) (rest:=[]) (by simpa using HB2.out) HK.out.size (Nat.le_refl _) (by unfold maxLen;omega) (by rw [List.length_map,HLEN.out,Nat.mul_one]) (by rw [List.append_nil,List.length_map,HLEN.out,Nat.mul_one])
 ·have hd:decide (okW l)=false:=by simp [hok]
  rw [hd];have HOK:=Lib.hid hok;clear hok hd;go_wp2_with fail;go_ret2;refine ⟨none,0,0,by rw [lensL_no HOK.out];rfl,by rw [lensE_no HOK.out];rfl,?_,HK1.out⟩;rw [lensL_no HOK.out];exact ⟨rfl,.inl ⟨rfl,rfl⟩⟩
end Go.Proofs.YtanacapkfllbnaaGreatDoor
