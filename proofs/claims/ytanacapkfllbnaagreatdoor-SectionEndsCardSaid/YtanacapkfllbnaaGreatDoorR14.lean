/-
  LAYER 6 (alpha): a code in memory; slices.Clone at numbers and truths.
  LAYER 6 (alpha): what a code tells: there, Signs, Lengths, Word.
  CONDITIONS: as each lemma says.
-/
import Derived.Test.YtanacapkfllbnaaGreatDoorR00
import Derived.Test.YtanacapkfllbnaaGreatDoorR04
import Derived.Test.YtanacapkfllbnaaGreatDoorR07
import Derived.Lib.SliceRun
set_option maxRecDepth 100000
set_option maxHeartbeats 4000000
namespace Go.Proofs.YtanacapkfllbnaaGreatDoor
open Go.RowKit

def NodeM (w:World) (lo hi:Nat):CT→Value→Prop
 | .nil,v=>v=.pointer none
 | .leaf s,v=>∃ g,v=.pointer (some ⟨g,0,none⟩)∧lo≤g∧g < hi∧Blk w g 175 [.pointer none,.pointer none,.int .i64 (s:Int),.bool true]
 | .node a b,v=>∃ g va vb,v=.pointer (some ⟨g,0,none⟩)∧lo≤g∧g < hi∧Blk w g 175 [va,vb,.int .i64 0,.bool false]∧NodeM w lo hi a va∧NodeM w lo hi b vb
section
variable {w w':World} {lo hi lo' hi':Nat}
theorem NodeM.kp {S:List Nat} (hk:Kp S w w') (hS:∀ g ∈ S,g < lo ∨ hi≤g):∀ {T:CT} {v:Value},NodeM w lo hi T v→NodeM w' lo hi T v
 | .nil,_,h=>h
 | .leaf s,_,⟨g,h1,h2,h3,h4⟩=>⟨g,h1,h2,h3,h4.kp hk (fun hm=>by rcases hS g hm with h | h <;> omega)⟩
 | .node a b,_,⟨g,va,vb,h1,h2,h3,h4,h5,h6⟩=>⟨g,va,vb,h1,h2,h3,h4.kp hk (fun hm=>by rcases hS g hm with h | h <;> omega),NodeM.kp hk hS h5,NodeM.kp hk hS h6⟩
theorem NodeM.mono (h1:lo'≤lo) (h2:hi≤hi'):∀ {T:CT} {v:Value},NodeM w lo hi T v→NodeM w lo' hi' T v
 | .nil,_,h=>h
 | .leaf s,_,⟨g,a,b,c,d⟩=>⟨g,a,by omega,by omega,d⟩
 | .node x y,_,⟨g,va,vb,a,b,c,d,e,f⟩=>⟨g,va,vb,a,by omega,by omega,d,NodeM.mono h1 h2 e,NodeM.mono h1 h2 f⟩
def WordV (w:World) (P:Nat→Prop) (hi:Nat) (o:Option (List Bool)) (v:Value):Prop:=
 match o with
 | none=>v=.slice none 0 0
 | some u=>∃ ad c,v=.slice (some ad) u.length c∧u.length≤c∧P ad.block∧ad.block < hi∧Rd w hi (some ad) (u.map .bool)
theorem WordV.kp {P:Nat→Prop} {S:List Nat} {o:Option (List Bool)} {v:Value} (h:WordV w P hi o v) (hk:Kp S w w') (hS:∀ g ∈ S,¬ P g ∨ hi≤g):WordV w' P hi o v:=by
 cases o with
 | none=>exact h
 | some u =>
   obtain ⟨ad,c,h1,h2,h3,h4,h5⟩:=h
   exact ⟨ad,c,h1,h2,h3,h4,h5.kp_ne hk (fun a ha hm=>by
    injection ha with ha
    subst ha;rcases hS _ hm with h | h
    ·exact h h3
    ·omega)⟩
theorem WordV.mono {P P':Nat→Prop} {o:Option (List Bool)} {v:Value} (h:WordV w P hi o v) (h1:∀ g,g < hi→P g→P' g) (h2:hi≤hi'):WordV w P' hi' o v:=by
 cases o with
 | none=>exact h
 | some u =>
   obtain ⟨ad,c,a1,a2,a3,a4,a5⟩:=h;exact ⟨ad,c,a1,a2,h1 _ a4 a3,by omega,a5.bound h2⟩
def WordsM (w:World) (P:Nat→Prop) (hi:Nat) (f:Nat→Option (List Bool)) (ws:List Value):Prop:=ws.length=257∧∀ s,s < 257→∃ v,ws[s]? = some v∧WordV w P hi (f s) v
theorem WordsM.kp {P:Nat→Prop} {S:List Nat} {f:Nat→Option (List Bool)} {ws:List Value} (h:WordsM w P hi f ws) (hk:Kp S w w') (hS:∀ g ∈ S,¬ P g ∨ hi≤g):WordsM w' P hi f ws:=
 ⟨h.1,fun s hs=>by obtain ⟨v,h1,h2⟩:=h.2 s hs;exact ⟨v,h1,h2.kp hk hS⟩⟩
theorem WordsM.mono {P P':Nat→Prop} {f:Nat→Option (List Bool)} {ws:List Value} (h:WordsM w P hi f ws) (h1:∀ g,g < hi→P g→P' g) (h2:hi≤hi'):WordsM w P' hi' f ws:=
 ⟨h.1,fun s hs=>by obtain ⟨v,a,b⟩:=h.2 s hs;exact ⟨v,a,b.mono h1 h2⟩⟩
def updW (f:Nat→Option (List Bool)) (s:Nat) (u:List Bool):Nat→Option (List Bool):=fun t=>if t=s then some u else f t
theorem WordsM.put {P:Nat→Prop} {f:Nat→Option (List Bool)} {ws:List Value} (h:WordsM w P hi f ws) {s:Nat} {u:List Bool} {v:Value} (hv:WordV w P hi (some u) v):WordsM w P hi (updW f s u) (ws.set s v):=by
 refine ⟨by rw [List.length_set];exact h.1,fun t ht=>?_⟩;obtain ⟨x,h1,h2⟩:=h.2 t ht;by_cases e:t=s
 ·subst e;exact ⟨v,by rw [List.getElem?_set_self (by rw [h.1];exact ht)],by unfold updW;rw [if_pos rfl];exact hv⟩
 ·exact ⟨x,by rw [List.getElem?_set_ne (Ne.symm e)];exact h1,by unfold updW;rw [if_neg e];exact h2⟩
theorem WordsM.none {P:Nat→Prop}:WordsM w P hi (fun _=>none) (List.replicate 257 (.slice none 0 0)):=
 ⟨List.length_replicate,fun s hs=>⟨.slice Option.none 0 0,by rw [List.getElem?_replicate,if_pos hs],rfl⟩⟩
def updL (f:Nat→Option (List Bool)) (l:List (Nat × List Bool)):Nat→Option (List Bool):=l.foldl (fun f x=>updW f x.1 x.2) f
theorem updL_app (f:Nat→Option (List Bool)) (a b:List (Nat × List Bool)):updL f (a ++ b)=updL (updL f a) b:=by unfold updL;rw [List.foldl_append]
theorem updL_not {s:Nat}:∀ {l:List (Nat × List Bool)} {f:Nat→Option (List Bool)},(∀ x ∈ l,x.1 ≠ s)→updL f l s=f s
 | [],_,_=>rfl
 | x :: l,f,h=>by
   show updL (updW f x.1 x.2) l s=f s
   rw [updL_not (l:=l) (fun y hy=>h y (List.mem_cons_of_mem _ hy))];unfold updW;rw [if_neg (fun e=>h x (by simp) e.symm)]
theorem updL_find {s:Nat}:∀ {l:List (Nat × List Bool)},(l.map Prod.fst).Pairwise (· < ·)→∀ f:Nat→Option (List Bool),f s=none→updL f l s=(l.find? fun x=>x.1 == s).map Prod.snd
 | [],_,f,hf=>by simpa [updL] using hf
 | x :: l,h,f,hf=>by
   rw [List.map_cons,List.pairwise_cons] at h
   show updL (updW f x.1 x.2) l s=_
   by_cases e:x.1=s
   ·rw [List.find?_cons_of_pos (by simpa using e),updL_not (fun y hy e'=>by
     have:=h.1 y.1 (List.mem_map.2 ⟨y,hy,rfl⟩)
     omega)]
    unfold updW;rw [if_pos e.symm];rfl
   ·rw [List.find?_cons_of_neg (by simpa using e),updL_find h.2 _ (by unfold updW;rw [if_neg (fun e'=>e e'.symm)];exact hf)]
theorem updL_word {T:CT} {sg:List Nat} {ls:List Int} (h:CodeT T sg ls):updL (fun _=>none) (T.al [])=T.word:=by
 funext s
 rw [updL_find (by rw [h.1];exact h.2.2.1) _ rfl];rfl
def CodeM (w:World) (lo hi p:Nat) (T:CT) (sg:List Nat) (ls:List Int):Prop:=
 CodeT T sg ls∧lo≤p∧p < hi∧∃ (r:Value) (ws:List Value) (A1 A2:Addr) (c1 c2:Nat),Blk w p 170 (r :: (ws ++ [.slice (some A1) sg.length c1,.slice (some A2) ls.length c2]))∧NodeM w (p+1) hi T r∧WordsM w (fun g=>p < g) hi T.word ws∧sg.length≤c1∧ls.length≤c2 ∧
  lo≤A1.block∧lo≤A2.block∧Rd w hi (some A1) (sg.map fun (x:Nat)=>.int .i64 (x:Int))∧Rd w hi (some A2) (ls.map (.int .i64))∧A1.block < hi∧A2.block < hi
theorem CodeM.kp {S:List Nat} {p:Nat} {T:CT} {sg:List Nat} {ls:List Int} (h:CodeM w lo hi p T sg ls) (hk:Kp S w w') (hS:∀ g ∈ S,g < lo ∨ hi≤g):CodeM w' lo hi p T sg ls:=by
 obtain ⟨h1,h2,h3,r,ws,A1,A2,c1,c2,h4,h5,h6,h7,h8,h9,h10,h11,h12,h13,h14⟩:=h;refine ⟨h1,h2,h3,r,ws,A1,A2,c1,c2,h4.kp hk (fun hm=>by rcases hS _ hm with h | h <;> omega),h5.kp hk (fun g hg=>by rcases hS g hg with h | h <;> omega),h6.kp hk (fun g hg=>by rcases hS g hg with h | h;exact .inl (by omega);exact .inr h),h7,h8,h9,h10,h11.kp_ne hk ?_,h12.kp_ne hk ?_,h13,h14⟩
 ·intro a ha hm;injection ha with ha
  subst ha;rcases hS _ hm with h | h <;> omega
 ·intro a ha hm;injection ha with ha
  subst ha;rcases hS _ hm with h | h <;> omega
theorem CodeM.kp0 {p:Nat} {T:CT} {sg:List Nat} {ls:List Int} (h:CodeM w lo hi p T sg ls) (hk:Kp [] w w'):CodeM w' lo hi p T sg ls:=h.kp hk (by simp)
theorem CodeM.low {p:Nat} {T:CT} {sg:List Nat} {ls:List Int} (h:CodeM w lo hi p T sg ls) (h1:lo'≤lo):CodeM w lo' hi p T sg ls:=by
 obtain ⟨h1',h2,h3,r,ws,A1,A2,c1,c2,h4,h5,h6,h7,h8,h9,h10,h11,h12,h13,h14⟩:=h;exact ⟨h1',by omega,h3,r,ws,A1,A2,c1,c2,h4,h5,h6,h7,h8,by omega,by omega,h11,h12,h13,h14⟩
theorem CodeM.lens {p:Nat} {T:CT} {sg:List Nat} {ls:List Int} (h:CodeM w lo hi p T sg ls):sg.length=ls.length:=by
 rw [← h.1.1,← h.1.2.1,List.length_map,List.length_map]
theorem CodeM.root {p:Nat} {T:CT} {sg:List Nat} {ls:List Int} (h:CodeM w lo hi p T sg ls):∃ g,w.cell? ⟨p,0,none⟩=some (.pointer (some ⟨g,0,none⟩))∧NodeM w lo hi T (.pointer (some ⟨g,0,none⟩)):=by
 obtain ⟨h1,h2,h3,r,ws,A1,A2,c1,c2,h4,h5,_⟩:=h;obtain ⟨a,b,rfl⟩:=h1.node;obtain ⟨g,va,vb,rfl,k1,k2,k3,k4,k5⟩:=h5;exact ⟨g,by rw [h4.cell];rfl,g,va,vb,rfl,by omega,k2,k3,k4.mono (by omega) (Nat.le_refl _),k5.mono (by omega) (Nat.le_refl _)⟩
theorem CodeM.cellw {p:Nat} {T:CT} {sg:List Nat} {ls:List Int} (h:CodeM w lo hi p T sg ls) {s:Nat} (hs:s < 257):∃ v,w.cell? ⟨p,1+s,none⟩=some v∧WordV w (fun g=>lo≤g) hi (T.word s) v:=by
 obtain ⟨h1,h2,h3,r,ws,A1,A2,c1,c2,h4,h5,h6,_⟩:=h;obtain ⟨v,k1,k2⟩:=h6.2 s hs;refine ⟨v,?_,k2.mono (fun g _ hg=>by omega) (Nat.le_refl _)⟩;rw [h4.cell,Nat.add_comm,List.getElem?_cons_succ,List.getElem?_append_left (by rw [h6.1];exact hs)];exact k1
theorem CodeM.row0 {p:Nat} {T:CT} {sg:List Nat} {ls:List Int} (h:CodeM w lo hi p T sg ls):∃ (A:Addr) (c:Nat),w.cell? ⟨p,258,none⟩=some (.slice (some A) sg.length c)∧Rd w hi (some A) (sg.map fun (x:Nat)=>.int .i64 (x:Int)):=by
 obtain ⟨h1,h2,h3,r,ws,A1,A2,c1,c2,h4,h5,h6,_,_,_,_,h11,_⟩:=h;refine ⟨A1,c1,?_,h11⟩;rw [h4.cell,List.getElem?_cons_succ,List.getElem?_append_right (by rw [h6.1];omega),h6.1];rfl
theorem CodeM.row1 {p:Nat} {T:CT} {sg:List Nat} {ls:List Int} (h:CodeM w lo hi p T sg ls):∃ (A:Addr) (c:Nat),w.cell? ⟨p,259,none⟩=some (.slice (some A) ls.length c)∧Rd w hi (some A) (ls.map (.int .i64)):=by
 obtain ⟨h1,h2,h3,r,ws,A1,A2,c1,c2,h4,h5,h6,_,_,_,_,_,h12,_⟩:=h;refine ⟨A2,c2,?_,h12⟩;rw [h4.cell,List.getElem?_cons_succ,List.getElem?_append_right (by rw [h6.1];omega),h6.1];rfl
end
theorem Tryz.info_abool:(Tryz.prog.info? 4).map (fun i=>(i.zero,i.size,i.bytes))=some (some (.bool false),1,1):=by kernel_rfl
theorem Tryz.info_aint:(Tryz.prog.info? 3).map (fun i=>(i.zero,i.size,i.bytes))=some (some (.int .i64 0),1,8):=by kernel_rfl
theorem own_nilA (w:World) (base:Nat) (e:TypeId) (size:Nat) (hb:base≤w.heap.size):(w.alloc (.cells #[] e)).ownsRow base e size (.slice (some ⟨w.heap.size,0,none⟩) 0 0) 0 []:=
 ⟨by simp,.inr ⟨_,0,#[],rfl,hb,Blk.new w e [],Nat.le_refl _,Nat.zero_le _,by simp,by simp⟩⟩
theorem clonet_any (A:Option Addr) (n c B:Nat) (xs:List Value) (w:World) (hx:Rd w B A xs) (hn:xs.length=n) (hb:n≤1000000000) (hoc:∀ u ∈ xs,u.oneCell'=true) (h0:A=none→n=0) :
  Calls Tryz.prog 153 #[.slice A n c] w fun e w'=>∃ A' c',e=.returned (.slice A' n c')∧w'.ownsRow w.heap.size 4 1 (.slice A' n c') n xs∧Kp [] w w':=by
 obtain ⟨i0,hi,hz0,hz1,hz2⟩:=info_parts (Tryz.info_abool);have heq:=fun (w:World) (A:Option Addr) (n:Nat)=>Lib.run_eql_slice_nil (P:=Tryz.prog) w 80 4 A n c 0 0 Tryz.underlying80
 have HN:=Lib.hid hn;have HX:=Lib.hid hx;have H1:=Lib.hid hoc;clear hn hx hoc;rcases A with _ | ad
 ·obtain rfl:=h0 rfl;obtain rfl:xs=[]:=List.eq_nil_of_length_eq_zero HN.out
  go_enter Tryz.func153,Tryz.ntmps153
  go_wp2_with fail;go_ret;exact ⟨none,0,rfl,World.ownsRow_nil w _ _ _,Kp.refl _ w⟩
 ·clear h0;have HXA:=Lib.hid (HX.out.kp0 ((Kp.refl [] w).alloc (.cells #[] 4)))
  go_enter Tryz.func153,Tryz.ntmps153
  go_wp2_with (at_builtin;go_loud (refine wpList_append_rd rfl (.tmp 5) (.tmp 6) 80 rfl w.heap.size 4 i0 (.bool false) 1 1 Tryz.underlying80 hi hz0 hz1 hz2 rfl (by decide) (.slice (some ⟨w.heap.size,0,none⟩) 0 0) 0 [] rfl (own_nilA w w.heap.size _ 1 (Nat.le_refl _)) _ _ n c xs rfl (by rw [HN.out,Nat.mul_one]) HXA.out H1.out (by unfold maxLen;omega) (by omega) (by simp) ?_);intro v1 w1 hown1 hgrow1 hat1)
  have HK:=Lib.hid (show Kp [] w w1 from ((Kp.refl [] w).alloc _).grown hgrow1 (by simp [Value.ownBlock]));obtain ⟨A',c',rfl,_⟩:=own_form hown1;rw [Nat.zero_add,List.nil_append] at hown1;have HO:=Lib.hid hown1;clear hown1 hgrow1 hat1;go_wp2_with fail;go_ret;exact ⟨A',c',by simp,HO.out,HK.out⟩
theorem clonei_any (A:Option Addr) (n c B:Nat) (xs:List Value) (w:World) (hx:Rd w B A xs) (hn:xs.length=n) (hb:n≤1000000000) (hoc:∀ u ∈ xs,u.oneCell'=true) (h0:A=none→n=0) :
  Calls Tryz.prog 113 #[.slice A n c] w fun e w'=>∃ A' c',e=.returned (.slice A' n c')∧w'.ownsRow w.heap.size 3 1 (.slice A' n c') n xs∧Kp [] w w':=by
 obtain ⟨i0,hi,hz0,hz1,hz2⟩:=info_parts (Tryz.info_aint);have heq:=fun (w:World) (A:Option Addr) (n:Nat)=>Lib.run_eql_slice_nil (P:=Tryz.prog) w 81 3 A n c 0 0 Tryz.underlying81
 have HN:=Lib.hid hn;have HX:=Lib.hid hx;have H1:=Lib.hid hoc;clear hn hx hoc;rcases A with _ | ad
 ·obtain rfl:=h0 rfl;obtain rfl:xs=[]:=List.eq_nil_of_length_eq_zero HN.out
  go_enter Tryz.func113,Tryz.ntmps113
  go_wp2_with fail;go_ret;exact ⟨none,0,rfl,World.ownsRow_nil w _ _ _,Kp.refl _ w⟩
 ·clear h0;have HXA:=Lib.hid (HX.out.kp0 ((Kp.refl [] w).alloc (.cells #[] 3)))
  go_enter Tryz.func113,Tryz.ntmps113
  go_wp2_with (at_builtin;go_loud (refine wpList_append_rd rfl (.tmp 5) (.tmp 6) 81 rfl w.heap.size 3 i0 (.int .i64 0) 1 8 Tryz.underlying81 hi hz0 hz1 hz2 rfl (by decide) (.slice (some ⟨w.heap.size,0,none⟩) 0 0) 0 [] rfl (own_nilA w w.heap.size _ 1 (Nat.le_refl _)) _ _ n c xs rfl (by rw [HN.out,Nat.mul_one]) HXA.out H1.out (by unfold maxLen;omega) (by omega) (by simp) ?_);intro v1 w1 hown1 hgrow1 hat1)
  have HK:=Lib.hid (show Kp [] w w1 from ((Kp.refl [] w).alloc _).grown hgrow1 (by simp [Value.ownBlock]));obtain ⟨A',c',rfl,_⟩:=own_form hown1;rw [Nat.zero_add,List.nil_append] at hown1;have HO:=Lib.hid hown1;clear hown1 hgrow1 hat1;go_wp2_with fail;go_ret;exact ⟨A',c',by simp,HO.out,HK.out⟩
end Go.Proofs.YtanacapkfllbnaaGreatDoor
namespace Go.Proofs.YtanacapkfllbnaaGreatDoor
open Go.RowKit

theorem cthere_any (lo hi p:Nat) (T:CT) (sg:List Nat) (ls:List Int) (w:World) (h:CodeM w lo hi p T sg ls):Calls Tryz.prog 115 #[.pointer (some ⟨p,0,none⟩)] w fun e w'=>e=.returned (.bool true)∧w=w':=by
 obtain ⟨g,hc,_⟩:=h.root;clear h
 go_enter Tryz.func115,Tryz.ntmps115
 go_wp2_with fail;go_ret;exact ⟨rfl,rfl⟩
theorem oc_nats (l:List Nat):∀ u ∈ (l.map fun (x:Nat)=>Value.int .i64 (x:Int)),u.oneCell'=true:=by
 intro u hu;obtain ⟨x,_,rfl⟩:=List.mem_map.1 hu;rfl
theorem oc_bools (l:List Bool):∀ u ∈ l.map Value.bool,u.oneCell'=true:=by
 intro u hu;obtain ⟨x,_,rfl⟩:=List.mem_map.1 hu;rfl
theorem csigns_any (lo hi p:Nat) (T:CT) (sg:List Nat) (ls:List Int) (w:World) (h:CodeM w lo hi p T sg ls):Calls Tryz.prog 62 #[.pointer (some ⟨p,0,none⟩)] w fun e w'=>∃ (A':Option Addr) (n c':Nat),n=sg.length∧e=.returned (.slice A' n c')∧w'.ownsRow w.heap.size 3 1 (.slice A' n c') n (sg.map fun (x:Nat)=>.int .i64 (x:Int))∧Kp [] w w':=by
 have hl:=codeT_len h.1;obtain ⟨A,c,hc,hr⟩:=h.row0;obtain ⟨n,hn⟩:∃ n,n=sg.length:=⟨_,rfl⟩;rw [← hn] at hc hl;have H:=Lib.hid h;have HR:=Lib.hid hr;have HN:=Lib.hid hn;clear h hr hn
 go_enter Tryz.func62,Tryz.ntmps62
 go_wp2_with fail;refine (cthere_any lo hi p T sg ls w H.out).mono ?_;rintro e w1 ⟨rfl,rfl⟩;go_wp2_with fail;refine (clonei_any (some A) n c hi _ w HR.out (by rw [List.length_map];exact HN.out.symm) (by omega) (oc_nats _) (fun e=>by cases e)).mono ?_;rintro e w1 ⟨A',c',rfl,ho,hk⟩;have HO:=Lib.hid ho;have HK:=Lib.hid hk;clear ho hk;go_wp2_with fail;go_ret;exact ⟨A',n,c',HN.out,rfl,HO.out,HK.out⟩
theorem clengths_any (lo hi p:Nat) (T:CT) (sg:List Nat) (ls:List Int) (w:World) (h:CodeM w lo hi p T sg ls):Calls Tryz.prog 75 #[.pointer (some ⟨p,0,none⟩)] w fun e w'=>∃ (A':Option Addr) (n c':Nat),n=ls.length∧e=.returned (.slice A' n c')∧w'.ownsRow w.heap.size 3 1 (.slice A' n c') n (ls.map (.int .i64))∧Kp [] w w':=by
 have hl:=codeT_len h.1;rw [h.lens] at hl;obtain ⟨A,c,hc,hr⟩:=h.row1;obtain ⟨n,hn⟩:∃ n,n=ls.length:=⟨_,rfl⟩;rw [← hn] at hc hl;have H:=Lib.hid h;have HR:=Lib.hid hr;have HN:=Lib.hid hn;clear h hr hn
 go_enter Tryz.func75,Tryz.ntmps75
 go_wp2_with fail;refine (cthere_any lo hi p T sg ls w H.out).mono ?_;rintro e w1 ⟨rfl,rfl⟩;go_wp2_with fail;refine (clonei_any (some A) n c hi _ w HR.out (by rw [List.length_map];exact HN.out.symm) (by omega) (oc_ints _ _) (fun e=>by cases e)).mono ?_;rintro e w1 ⟨A',c',rfl,ho,hk⟩;have HO:=Lib.hid ho;have HK:=Lib.hid hk;clear ho hk;go_wp2_with fail;go_ret;exact ⟨A',n,c',HN.out,rfl,HO.out,HK.out⟩
def wdI (T:CT) (k:Int):Option (List Bool):=if 0≤k∧k < 257 then T.word k.toNat else none
end Go.Proofs.YtanacapkfllbnaaGreatDoor
