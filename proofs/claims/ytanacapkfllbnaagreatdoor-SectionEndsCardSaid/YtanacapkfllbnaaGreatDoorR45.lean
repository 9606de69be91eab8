/-
  LAYER 12 (front): Text, the walk.
  sort.Search over a predicate that keeps an invariant; LAYER 12 (front): Find.
  LAYER 12 (front): Find: how many texts stand ahead of one, and whether it is there.
  LAYER 12 (front): Find, the walk.
  PLAIN MATHEMATICS OF LAYER 12's law: texts in order, each once.
  PLAIN MATHEMATICS OF LAYER 12's law: what sorting and likeness mean for FrontLong.
  LAYER 12 (front): two fronts side by side.
  Plain law of layer 13: the pieces of texts.
  Plain law of layer 13: the numbers of a prefix.
  Plain law of layer 13: the bits of a front hang on its pieces; the places of ones.
  CONDITIONS: as each lemma says.
-/
import Derived.Test.YtanacapkfllbnaaGreatDoorR43
import Derived.Test.YtanacapkfllbnaaGreatDoorR39
import Derived.Test.YtanacapkfllbnaaGreatDoorR20
import Derived.Test.YtanacapkfllbnaaGreatDoorR19
import Derived.Laws.ResultCell
set_option maxRecDepth 100000
set_option maxHeartbeats 4000000
namespace Go.Proofs.YtanacapkfllbnaaGreatDoor
open Go.RowKit

theorem results_cell_t {P:Program} {fn:Func} {p u:Tmp} {ty:TypeId} (h:fn.results=#[.cell p ty,.tmp u]) (tmps:Array Value) (w:World) (ad:Addr) (v x:Value) (hp:tmps.getD p undef=.pointer (some ad)) (hx:tmps.getD u undef=x) (hc:w.cell? ad=some v) (ha:(isAgg ty).run P w=.ok false w):(results fn tmps).run P w=.ok (.tuple #[v,x]) w:=by
 rw [results_cell_tmp h,hp,hx]
 simp [Result.andThen,asAddr,loadVar,Sem.run_bind,ha,load]
 rw [Sem.run,hc];rfl
theorem ftext_in (k n lo hi lo' hi' f p:Nat) (S:List Nat) (T:CT) (sg:List Nat) (ls:List Int) (ss:List ByteArray) (s:ByteArray) (w:World) (h:Fro w lo hi lo' hi' S f p T sg ls ss) (hn:ss.length=n) (hn9:n≤1000000) (hs:ss[k]? = some s) :
  Calls Tryz.prog 57 #[.pointer (some ⟨f,0,none⟩),.int .i64 (k:Int)] w fun e w'=>e=.returned (.tuple #[.string s,.bool true])∧FroP w w' S lo hi lo' hi' f p T sg ls ss:=by
 have hk:k < n:=by rw [← hn];exact (List.getElem?_eq_some_iff.1 hs).1
 have hnewA:=h.new (o:=w.heap.size) (Nat.le_refl _);have hnewB:=h.new (o:=w.heap.size+1) (by omega);have HF:=Lib.hid h;have HN:=Lib.hid hn;have HS:=Lib.hid hs;have HNA:=Lib.hid hnewA;have HNB:=Lib.hid hnewB;obtain ⟨w0,hw0⟩:∃ w0,w0=(w.alloc (.cells #[.int .i64 (k:Int)] 3)).alloc (.cells #[.string ⟨#[]⟩] 9):=⟨_,rfl⟩;obtain ⟨ii,hii⟩:∃ ii,ii=w.heap.size:=⟨_,rfl⟩;have hk0:Kp [] w w0:=by rw [hw0];exact ((Kp.refl [] w).alloc _).alloc _
 have hbi:Blk w0 ii 3 [.int .i64 (k:Int)]:=by
  rw [hw0,hii];exact (Blk.new w 3 [.int .i64 (k:Int)]).kp0 ((Kp.refl [] _).alloc _)
 have hbo:Blk w0 (ii+1) 9 [.string ⟨#[]⟩]:=by
  rw [hw0,hii];have:=Blk.new (w.alloc (.cells #[.int .i64 (k:Int)] 3)) 9 [.string ⟨#[]⟩];simpa using this
 have hci:w0.cell? ⟨ii,0,none⟩=some (.int .i64 (k:Int)):=by rw [hbi.cell];rfl
 rw [← hii] at hnewA hnewB HNA HNB;have hbiw:ii=w.heap.size:=hii;have HBI:=Lib.hid hbi;have HBO:=Lib.hid hbo;have HK0:=Lib.hid hk0;have HII:=Lib.hid hii;have HW0:=Lib.hid hw0;have hkk:(k:Int) < (n:Int):=by omega
 have hkk0:(0:Int)≤(k:Int):=by omega
 have hkd1:decide ((k:Int) < 0)=false:=decide_eq_false (by omega);have hkd2:decide ((n:Int)≤(k:Int))=false:=by simp;omega
 have hkd3:decide (n≤k)=false:=by simp;omega
 clear h hn hs hnewA hnewB hw0 hii hk0 hbi hbo hbiw
 go_enter Tryz.func57,Tryz.ntmps57
 go_wp2_with fail;rw [← HW0.out,← HII.out]
 go_region_held3 (fun w'=>w'.cell? ⟨ii,0,none⟩=some (.int .i64 (k:Int))) (go_keep)
  (first
   | (go_at_call 56
      refine (flen_any n _ (HF.out.fr.kp0 (HK0.out.drew)) HN.out).mono ?_
      rintro e w1 ⟨rfl,rfl⟩))
 obtain ⟨b,hb⟩:∃ b,b=k / 8:=⟨_,rfl⟩;have htd:Int.tdiv (k:Int) 8=(b:Int):=by rw [Int.tdiv_eq_ediv_of_nonneg (by omega)];omega
 obtain ⟨E,hE⟩:∃ E,E=min (8 * b+8) n:=⟨_,rfl⟩;have hb8:8 * b≤k:=by omega
 have hkE:k < E:=by omega
 have hEn:E≤8 * b+8:=by omega
 have HE:=Lib.hid hE;clear hb hE;go_wp2_with fail;have hkw:Kp [] w w0.drew:=HK0.out.drew;have hsw:w0.heap.size=ii+2:=by rw [HW0.out,HII.out];simp
 refine (fwalk_any 108 b n E lo hi lo' hi' f p #[.pointer (some ⟨ii+1,0,none⟩),.pointer (some ⟨ii,0,none⟩)] S [ii+1,ii] (fun j w'=>∃ so,Blk w' (ii+1) 9 [.string so]∧Blk w' ii 3 [.int .i64 (k:Int)]∧(8 * b < j→ss[j - 1]? = some so)) (fun j=>decide ((j:Int) < (k:Int))) T sg ls ss w0.drew (HF.out.kp0 hkw) HN.out hn9 (by omega) HE.out (enters_fn Tryz.func108 (by kernel_rfl) rfl)
  ⟨_,HBO.out.drew,HBI.out.drew,fun h=>by omega⟩ (fun j w1 w2 X h1 h2 h3=>by obtain ⟨so,a1,a2,a3⟩:=h1;exact ⟨so,a1.kp h2 (h3 _ (by simp)),a2.kp h2 (h3 _ (by simp)),a3⟩)
  (fun x hx=>by
   simp only [List.mem_cons,List.not_mem_nil,or_false] at hx
   rcases hx with rfl | rfl
   ·exact ⟨HNB.out.1,HNB.out.2.1,HNB.out.2.2.1,HNB.out.2.2.2,by show _ < w0.heap.size;omega⟩
   ·exact ⟨HNA.out.1,HNA.out.2.1,HNA.out.2.2.1,HNA.out.2.2.2,by show _ < w0.heap.size;omega⟩)
  (fun j t w1 h1 h2 h3 h4=>by
   obtain ⟨so,a1,a2,_⟩:=h4;refine (text1_any (ii+1) ii (j:Int) (k:Int) t so w1 a1 a2 (by omega)).mono ?_;rintro e w2 ⟨rfl,c1,c2⟩
   exact ⟨rfl,⟨t,c1,a2.kp c2 (by simp),fun _=>by rw [Nat.add_sub_cancel];exact h3⟩,c2.mono (by simp)⟩)).mono ?_
 rintro e w1 ⟨rfl,⟨j,j1,j2,⟨so,d1,d2,d3⟩,j3,j4⟩,S',hf1,hg1,hk1⟩
 have hj:j=k+1:=by
  have h1:k+1≤j:=by
   rcases j4 with j4 | ⟨i,i1,i2,i3⟩
   ·omega
   ·have:=of_decide_eq_false i3;omega
  by_cases h:k+1 < j
  ·have:=of_decide_eq_true (j3 k hb8 h);omega
  ·omega
 have hso:so=s:=by
  have:=d3 (by omega);rw [hj,Nat.add_sub_cancel,HS.out] at this;injection this with this
  exact this.symm
 subst hso;have hks:Kp [ii+1] w1 (w1.setCell ⟨ii+1,0,none⟩ (.string so)):=(Kp.refl _ _).setCell (.inl (by simp)) _;have hg2:Grow w S S':=fun g hm=>(hg1 g hm).elim .inl (fun h=>.inr (Nat.le_trans hkw.size h))
 have hnew1:∀ g ∈ [ii+1],g ∉ S'∧(g < lo ∨ hi≤g)∧(g < lo' ∨ hi'≤g)∧g ≠ 0:=fun g hg=>by
  rw [List.mem_singleton.1 hg];refine ⟨fun hm=>?_,HNB.out.2.1,HNB.out.2.2.1,HNB.out.2.2.2⟩;rcases hg1 _ hm with h | h
  ·exact HNB.out.1 h
  ·have:ii+1 < w0.heap.size:=by omega
   have h2:w0.heap.size≤ii+1:=h;omega
 have hiw:w.heap.size=ii:=HII.out.symm
 have HEND:=Lib.hid (show FroP w (w1.setCell ⟨ii+1,0,none⟩ (.string so)) S lo hi lo' hi' f p T sg ls ss from ⟨S',hf1.kp hks hnew1,hg2,((hkw.mono (by simp):Kp S w w0.drew).trans' hk1 (fun x hx=>by
  rcases List.mem_append.1 hx with h | h
  ·exact .inl h
  ·refine .inr ?_;simp only [List.mem_cons,List.not_mem_nil,or_false] at h
   omega)).trans' hks (fun x hx=>.inr (by rw [List.mem_singleton.1 hx];omega))⟩)
 have hcc:w1.cell? ⟨ii+1,0,none⟩=some (.string so):=by rw [d1.cell];rfl
 have hff:=d1.free 0;have hcd:(w1.setCell ⟨ii+1,0,none⟩ (.string so)).cell? ⟨ii+1,0,none⟩=some (.string so):=by rw [(d1.set_ 0 (.string so)).cell];rfl
 clear j1 j2 j3 j4 d1 d2 d3 hf1 hg1 hk1 hks hnew1 hg2 hkw hsw htd hiw hci;go_wp2_with fail
 (try simp only [Exit.inBlock,Exit.then])
 exact bodyPost_ret (v:=.tuple #[.string so,.bool true]) (results_cell_t rfl _ _ ⟨ii+1,0,none⟩ _ _ rfl rfl hcd (agg_str _)) rfl ⟨rfl,HEND.out⟩
set_option maxHeartbeats 2000000 in
theorem search_inv (I:World→Prop) (g n:Nat) (lb:Array Value) (p:Nat→Bool) (w:World) (h0:I w) (eg:∀ args w,(callFunc g args).run Tryz.prog w=.ok (.enter g args) w) (hsz:n < 4611686018427387904)
  (hf:∀ (w':World) (i:Nat),I w'→i < n→Calls Tryz.prog g (#[.int .i64 i] ++ lb) w' fun e w''=>e=.returned (.bool (p i))∧I w'')
  (hmono:∀ a b,a≤b→b < n→p a=true→p b=true) :
  Calls Tryz.prog 82 #[.int .i64 n,.func (.func g) #[] lb] w fun e w'=>∃ k:Nat,e=.returned (.int .i64 (k:Int))∧k≤n∧(∀ t,t < k→p t=false)∧(∀ t,k≤t→t < n→p t=true)∧I w':=by
 have HF:=Lib.hid hf;clear hf;have HMO:=Lib.hid hmono;clear hmono
 go_enter Tryz.func82,Tryz.ntmps82
 go_wp2_with fail
 go_loopw [5,6] (fun x y wr=>∃ lo hi:Nat,x=.int .i64 (lo:Int)∧y=.int .i64 (hi:Int)∧lo≤hi∧hi≤n∧Hid (∀ t,t < lo→p t=false)∧Hid (∀ t,hi≤t→t < n→p t=true)∧Hid (I wr)) (fun x y _=>(intOf y).toNat - (intOf x).toNat)
 case atStart=>exact ⟨0,n,rfl,rfl,by omega,by omega,Lib.hid (fun t ht=>absurd ht (Nat.not_lt_zero _)),Lib.hid (fun t h1 h2=>absurd h2 (by omega)),Lib.hid h0⟩
 case round =>
  obtain ⟨lo,hi,rfl,rfl,hlh,hhn,HLO,HHI,HD⟩:=hrel;by_cases hlt:lo < hi
  ·obtain ⟨h,hh⟩:∃ h,h=(lo+hi) / 2:=⟨_,rfl⟩;have hw1:IntKind.i64.wrap ((lo:Int)+(hi:Int))=((lo+hi:Nat):Int):=by rw [IntKind.wrap_i64];omega
   have hw2:IntKind.u64.wrap ((lo:Int)+(hi:Int))=((lo+hi:Nat):Int):=by
    have:IntKind.u64.wrap ((lo:Int)+(hi:Int))=((lo:Int)+(hi:Int)) % 18446744073709551616:=by simp [IntKind.wrap,IntKind.signed,IntKind.bits]
    rw [this];omega
   have hdv:((lo:Int)+(hi:Int)) / 2=(h:Int):=by omega
   have hwh:IntKind.i64.wrap (h:Int)=(h:Int):=by rw [IntKind.wrap_i64];omega
   have hwu:IntKind.u64.wrap (h:Int)=(h:Int):=by
    have:IntKind.u64.wrap (h:Int)=(h:Int) % 18446744073709551616:=by simp [IntKind.wrap,IntKind.signed,IntKind.bits]
    rw [this];omega
   have hhb:lo≤h∧h < hi:=by omega
   have hc:=HF.out wr h HD.out (by omega);clear hh
   cases hp:p h <;> rw [hp] at hc
   ·have HP:=Lib.hid hp;clear hp;go_wp2_with fail;refine hc.mono ?_;rintro e w' ⟨rfl,hd⟩;have HD2:=Lib.hid (hd);clear hd;go_wp2_with fail;refine ⟨⟨h+1,hi,by go_num,rfl,by omega,hhn,Lib.hid (fun t ht=>?_),HHI,HD2⟩,by simp [intOf];omega⟩
    cases h2:p t with
    | false=>rfl
    | true =>
      have:=HMO.out t h (by omega) (by omega) h2;rw [HP.out] at this
      cases this
   ·have HP:=Lib.hid hp;clear hp;go_wp2_with fail;refine hc.mono ?_;rintro e w' ⟨rfl,hd⟩;have HD2:=Lib.hid (hd);clear hd;go_wp2_with fail;exact ⟨⟨lo,h,rfl,rfl,by omega,by omega,HLO,Lib.hid (fun t h1 h2=>HMO.out h t h1 h2 HP.out),HD2⟩,by simp [intOf];omega⟩
  ·obtain rfl:hi=lo:=by omega
   go_wp2_with fail;go_ret;exact ⟨hi,rfl,hhn,HLO.out,HHI.out,HD.out⟩


def findN (ss:List ByteArray) (s:ByteArray):Nat:=(ss.takeWhile fun t=>lexN (txt t) (txt s)).length
theorem findN_eq {ss:List ByteArray} {s:ByteArray} {k:Nat} (h1:∀ i t,i < k→ss[i]? = some t→lexN (txt t) (txt s)=true) (hk:k≤ss.length) (h2:∀ t,ss[k]? = some t→lexN (txt t) (txt s)=false):findN ss s=k:=by
 unfold findN
 induction ss generalizing k with
 | nil=>simp at hk;subst hk;rfl
 | cons t ss ih =>
   cases k with
   | zero =>
     have:=h2 t rfl;rw [List.takeWhile_cons,this];rfl
   | succ k =>
     have:=h1 0 t (by omega) rfl;rw [List.takeWhile_cons,this];simp only [if_true,List.length_cons]
     rw [ih (k:=k) (fun i u hi hu=>h1 (i+1) u (by omega) (by simpa using hu)) (by simpa using hk) (fun u hu=>h2 u (by simpa using hu))]
theorem rise_lt {ss:List ByteArray} (h:riseT ss=true):∀ {i j:Nat} {s t:ByteArray},i < j→ss[i]? = some s→ss[j]? = some t→lexN (txt s) (txt t)=true:=by
 intro i j
 induction j with
 | zero=>intro s t hij;omega
 | succ j ih =>
   intro s t hij hs ht;by_cases hj:i=j
   ·subst hj;exact (riseT_iff ss).1 h i s t hs ht
   ·have hl:=(List.getElem?_eq_some_iff.1 ht).1;have hm:ss[j]? = some ss[j]:=List.getElem?_eq_getElem (by omega);exact lexN_trans (ih (by omega) hs hm) ((riseT_iff ss).1 h j _ t hm ht)
theorem find2_any (a b c:Nat) (k:Nat) (s t:ByteArray) (n0:Int) (b0:Bool) (w:World) (h1:Blk w a 9 [.string s]) (h2:Blk w b 3 [.int .i64 n0]) (h3:Blk w c 4 [.bool b0]) (hab:a ≠ b) (hac:a ≠ c) (hbc:b ≠ c) (hk:k≤1000000) :
  Calls Tryz.prog 86 #[.int .i64 (k:Int),.string t,.pointer (some ⟨a,0,none⟩),.pointer (some ⟨b,0,none⟩),.pointer (some ⟨c,0,none⟩)] w fun e w'=>e=.returned (.bool (lexN (txt t) (txt s)))∧Blk w' b 3 [.int .i64 (if lexN (txt t) (txt s) then (k:Int)+1 else (k:Int))]∧Blk w' c 4 [.bool (t.toList == s.toList)]∧Kp [b,c] w w':=by
 have hl1:=less_txt t s;have hc1:w.cell? ⟨a,0,none⟩=some (.string s):=by rw [h1.cell];rfl
 have hc2:w.cell? ⟨b,0,none⟩=some (.int .i64 n0):=by rw [h2.cell];rfl
 have hc3:w.cell? ⟨c,0,none⟩=some (.bool b0):=by rw [h3.cell];rfl
 have hf2:=h2.free 0;have hf3:=h3.free 0;have hk1:(0:Int)≤(k:Int):=by omega
 have hk2:(k:Int)≤1000000:=by omega
 have H1:=Lib.hid h1;have H2:=Lib.hid h2;have H3:=Lib.hid h3;have HAB:=Lib.hid hab;have HAC:=Lib.hid hac;have HBC:=Lib.hid hbc;clear h1 h2 h3
 cases hx:lexN (txt t) (txt s)
 ·rw [hx] at hl1;have HL:=Lib.hid hl1;clear hl1
  go_enter Tryz.func86,Tryz.ntmps86
  go_wp2_with fail
  go_region
  clear hc1 hc2 hc3 hf2 hf3;obtain ⟨w3,hw3⟩:∃ w3,w3=((w.setCell ⟨b,0,none⟩ (.int .i64 (k:Int))).setCell ⟨c,0,none⟩ (.bool (t.toList == s.toList))).drew:=⟨_,rfl⟩;rw [← hw3];have g1:Blk w3 a 9 [.string s]:=by rw [hw3];exact ((H1.out.far (p:=⟨b,0,none⟩) HAB.out _).far (p:=⟨c,0,none⟩) HAC.out _).drew
  have g2:Blk w3 b 3 [.int .i64 (k:Int)]:=by rw [hw3];exact ((H2.out.set_ 0 (.int .i64 (k:Int))).far (p:=⟨c,0,none⟩) HBC.out _).drew
  have g3:Blk w3 c 4 [.bool (t.toList == s.toList)]:=by rw [hw3];exact ((H3.out.far (p:=⟨b,0,none⟩) (fun e=>HBC.out e.symm) _).set_ 0 (.bool (t.toList == s.toList))).drew
  have gk:Kp [b,c] w w3:=by rw [hw3];exact (((Kp.refl [b,c] w).setCell (.inl (by simp)) _).setCell (.inl (by simp)) _).drew
  have hc1:w3.cell? ⟨a,0,none⟩=some (.string s):=by rw [g1.cell];rfl
  have G2:=Lib.hid g2;have G3:=Lib.hid g3;have GK:=Lib.hid gk;have hl:=HL.out;clear hw3 g1 g2 g3 gk hx;go_wp2_with fail;go_ret;exact ⟨rfl,G2.out,G3.out,GK.out⟩
 ·rw [hx] at hl1;have HL:=Lib.hid hl1;clear hl1
  go_enter Tryz.func86,Tryz.ntmps86
  go_wp2_with fail
  go_region
  clear hc1 hc2 hc3 hf2 hf3;obtain ⟨w3,hw3⟩:∃ w3,w3=((w.setCell ⟨b,0,none⟩ (.int .i64 (k:Int))).setCell ⟨c,0,none⟩ (.bool (t.toList == s.toList))).drew:=⟨_,rfl⟩;rw [← hw3];have g1:Blk w3 a 9 [.string s]:=by rw [hw3];exact ((H1.out.far (p:=⟨b,0,none⟩) HAB.out _).far (p:=⟨c,0,none⟩) HAC.out _).drew
  have g2:Blk w3 b 3 [.int .i64 (k:Int)]:=by rw [hw3];exact ((H2.out.set_ 0 (.int .i64 (k:Int))).far (p:=⟨c,0,none⟩) HBC.out _).drew
  have g3:Blk w3 c 4 [.bool (t.toList == s.toList)]:=by rw [hw3];exact ((H3.out.far (p:=⟨b,0,none⟩) (fun e=>HBC.out e.symm) _).set_ 0 (.bool (t.toList == s.toList))).drew
  have gk:Kp [b,c] w w3:=by rw [hw3];exact (((Kp.refl [b,c] w).setCell (.inl (by simp)) _).setCell (.inl (by simp)) _).drew
  have hc1:w3.cell? ⟨a,0,none⟩=some (.string s):=by rw [g1.cell];rfl
  have G2:=Lib.hid g2;have G3:=Lib.hid g3;have GK:=Lib.hid gk;have hl:=HL.out;have hcb:w3.cell? ⟨b,0,none⟩=some (.int .i64 (k:Int)):=by rw [g2.cell];rfl
  have hfb:=g2.free 0;obtain ⟨w4,hw4⟩:∃ w4,w4=w3.setCell ⟨b,0,none⟩ (.int .i64 ((k:Int)+1)):=⟨_,rfl⟩;have hc14:(w3.setCell ⟨b,0,none⟩ (.int .i64 ((k:Int)+1))).cell? ⟨a,0,none⟩=some (.string s):=by rw [(g1.far (p:=⟨b,0,none⟩) HAB.out _).cell];rfl
  have E2:=Lib.hid (show Blk (w3.setCell ⟨b,0,none⟩ (.int .i64 ((k:Int)+1))) b 3 [.int .i64 ((k:Int)+1)] from g2.set_ 0 _);have E3:=Lib.hid (show Blk (w3.setCell ⟨b,0,none⟩ (.int .i64 ((k:Int)+1))) c 4 [.bool (t.toList == s.toList)] from g3.far (p:=⟨b,0,none⟩) (fun e=>HBC.out e.symm) _);have EK:=Lib.hid (show Kp [b,c] w (w3.setCell ⟨b,0,none⟩ (.int .i64 ((k:Int)+1))) from gk.setCell (.inl (by simp)) _);clear hw3 g1 g2 g3 gk hx hw4;go_wp2_with fail;go_ret;exact ⟨rfl,E2.out,E3.out,EK.out⟩
theorem str_eq_false {s t:ByteArray} (h:s ≠ t):(s.toList == t.toList)=false:=by
 have h5:s.toList ≠ t.toList:=fun e=>h (txt_inj (by unfold txt;rw [← toL,← toL,e]))
 simpa using h5
theorem find1_any (b n lo hi lo' hi' f p a1 a2:Nat) (S:List Nat) (T:CT) (sg:List Nat) (ls:List Int) (ss:List ByteArray) (hd s:ByteArray) (w:World) (h:Fro w lo hi lo' hi' S f p T sg ls ss) (hn:ss.length=n) (hn9:n≤1000000) (hs:ss[8 * b]? = some hd) (h1:Blk w a1 63 [.pointer (some ⟨f,0,none⟩)]) (h2:Blk w a2 9 [.string s]) (ha1:a1 ∉ S) (ha2:a2 ∉ S) :
  Calls Tryz.prog 83 #[.int .i64 (b:Int),.pointer (some ⟨a1,0,none⟩),.pointer (some ⟨a2,0,none⟩)] w fun e w'=>e=.returned (.bool (lexN (txt s) (txt hd)))∧FroP w w' S lo hi lo' hi' f p T sg ls ss:=by
 have hc1:w.cell? ⟨a1,0,none⟩=some (.pointer (some ⟨f,0,none⟩)):=by rw [h1.cell];rfl
 have hc2:w.cell? ⟨a2,0,none⟩=some (.string s):=by rw [h2.cell];rfl
 have HF:=Lib.hid h;have HN:=Lib.hid hn;have HS:=Lib.hid hs;have HA:=Lib.hid (And.intro ha1 ha2)
 obtain ⟨x,y,hx,hy,hxy⟩:∃ x y:Bool,Op.bytesLess hd.toList s.toList=x∧(hd.toList == s.toList)=y∧(!(x || y))=lexN (txt s) (txt hd):=by
  refine ⟨_,_,rfl,rfl,?_⟩;rw [less_txt];rcases lexN_total (txt hd) (txt s) with e | e | e
  ·rw [e,lexN_asymm _ _ e];rfl
  ·rw [e,txt_inj e,lexN_irrefl];simp
  ·rw [lexN_asymm _ _ e,e,str_eq_false (fun e2=>by rw [e2,lexN_irrefl] at e;cases e)];rfl
 have HXY:=Lib.hid hxy;clear h hn hs h1 h2 ha1 ha2 hxy
 go_enter Tryz.func83,Tryz.ntmps83
 go_wp2_with fail
 go_region_held3 (fun w'=>w'.cell? ⟨a1,0,none⟩=some (.pointer (some ⟨f,0,none⟩))∧w'.cell? ⟨a2,0,none⟩=some (.string s)) (go_keep)
  (first
   | (go_at_call 84
      refine (fhead_any b n lo hi lo' hi' f p S T sg ls ss hd _ (HF.out.kp0 ((Kp.refl [] w).drew)) HN.out hn9 HS.out).mono ?_;rintro e w1 ⟨rfl,S',hf1,hg1,hk1'⟩;have hk1:Kp S w w1:=((Kp.refl S w).drew).trans hk1';have hc11:=hk1.cell hc1 HA.out.1;have hc21:=hk1.cell hc2 HA.out.2;have HEND:=Lib.hid (show FroP w w1 S lo hi lo' hi' f p T sg ls ss from ⟨S',hf1,hg1,hk1⟩)
      clear hf1 hg1 hk1' hk1 hc1 hc2))
 go_wp2_with fail;go_ret;exact ⟨by rw [← HXY.out];first | rfl | simp,HEND.out⟩
theorem find_bucket {ss:List ByteArray} {s:ByteArray} {b:Nat} (hr:riseT ss=true) {hd:ByteArray} (hhd:ss[8 * b]? = some hd) (hp:lexN (txt s) (txt hd)=false):∀ i t,i < 8 * b→ss[i]? = some t→lexN (txt t) (txt s)=true:=fun i t hi ht=>by
 have h1:=rise_lt hr hi ht hhd;rcases lexN_total (txt hd) (txt s) with e | e | e
 ·exact lexN_trans h1 e
 ·rw [← e];exact h1
 ·rw [e] at hp;cases hp
theorem results_cell2 {P:Program} {fn:Func} {p u:Tmp} {t1 t2:TypeId} (h:fn.results=#[.cell p t1,.cell u t2]) (tmps:Array Value) (w:World) (a1 a2:Addr) (v x:Value) (hp:tmps.getD p undef=.pointer (some a1)) (hx:tmps.getD u undef=.pointer (some a2)) (hc:w.cell? a1=some v) (hc2:w.cell? a2=some x) (ha:(isAgg t1).run P w=.ok false w) (ha2:(isAgg t2).run P w=.ok false w):(results fn tmps).run P w=.ok (.tuple #[v,x]) w:=by
 have hp':tmps[p]?.getD undef=.pointer (some a1):=by simpa using hp
 have hx':tmps[u]?.getD undef=.pointer (some a2):=by simpa using hx
 have e1:Sem.run P (Sem.load Mode.plain a1 Sem.pure) w=.ok v w:=by rw [Sem.run,hc];rfl
 have e2:Sem.run P (Sem.load Mode.plain a2 Sem.pure) w=.ok x w:=by rw [Sem.run,hc2];rfl
 simp [results,h,hp',hx',asAddr,loadVar,Sem.run_bind,ha,load]
 rw [e1]
 simp [Result.andThen,ha2,e2]
def isF (ss:List ByteArray) (s:ByteArray):Bool:=decide (ss[findN ss s]? = some s)
theorem eq_beq (t s:ByteArray):(t.toList == s.toList)=decide (t=s):=by
 by_cases h:t=s
 ·subst h;simp
 ·rw [str_eq_false h,decide_eq_false h]
theorem FroP.trans {w w1 w2:World} {S S1:List Nat} {lo hi lo' hi' f p:Nat} {T:CT} {sg:List Nat} {ls:List Int} {ss:List ByteArray} (hk:Kp S w w1) (hg:Grow w S S1) (h:FroP w1 w2 S1 lo hi lo' hi' f p T sg ls ss):FroP w w2 S lo hi lo' hi' f p T sg ls ss:=by
 obtain ⟨S2,h1,h2,h3⟩:=h;exact ⟨S2,h1,fun g hm=>(h2 g hm).elim (hg g) (fun h=>.inr (Nat.le_trans hk.size h)),hk.trans' h3 (fun x hx=>hg x hx)⟩
theorem ffind_any (n lo hi lo' hi' f p:Nat) (S:List Nat) (T:CT) (sg:List Nat) (ls:List Int) (ss:List ByteArray) (s:ByteArray) (w:World) (h:Fro w lo hi lo' hi' S f p T sg ls ss) (hn:ss.length=n) (hn9:n≤1000000) (hr:riseT ss=true) :
  Calls Tryz.prog 37 #[.pointer (some ⟨f,0,none⟩),.string s] w fun e w'=>e=.returned (.tuple #[.int .i64 ((findN ss s:Nat):Int),.bool (isF ss s)])∧FroP w w' S lo hi lo' hi' f p T sg ls ss:=by
 have HNEW:=Lib.hid (fun (o:Nat) (ho:w.heap.size≤o)=>h.new ho);have HF:=Lib.hid h;have HN:=Lib.hid hn;have HR:=Lib.hid hr;obtain ⟨a,ha⟩:∃ a,a=w.heap.size:=⟨_,rfl⟩;obtain ⟨w0,hw0⟩:∃ w0,w0=(((w.alloc (.cells #[.pointer (some ⟨f,0,none⟩)] 63)).alloc (.cells #[.string s] 9)).alloc (.cells #[.int .i64 0] 3)).alloc (.cells #[.bool false] 4):=⟨_,rfl⟩;have hk0:Kp [] w w0:=by rw [hw0];exact ((((Kp.refl [] w).alloc _).alloc _).alloc _).alloc _
 have hb1:Blk w0 a 63 [.pointer (some ⟨f,0,none⟩)]:=by
  rw [hw0,ha];exact (Blk.new w 63 [.pointer (some ⟨f,0,none⟩)]).kp0 ((((Kp.refl [] _).alloc _).alloc _).alloc _)
 have hb2:Blk w0 (a+1) 9 [.string s]:=by
  rw [hw0,ha];have:=(Blk.new (w.alloc (.cells #[.pointer (some ⟨f,0,none⟩)] 63)) 9 [.string s]).kp0 (((Kp.refl [] _).alloc (.cells #[.int .i64 0] 3)).alloc (.cells #[.bool false] 4));simpa using this
 have hb3:Blk w0 (a+1+1) 3 [.int .i64 0]:=by
  rw [hw0,ha];have:=(Blk.new ((w.alloc (.cells #[.pointer (some ⟨f,0,none⟩)] 63)).alloc (.cells #[.string s] 9)) 3 [.int .i64 0]).kp0 ((Kp.refl [] _).alloc (.cells #[.bool false] 4));simpa using this
 have hb4:Blk w0 (a+1+1+1) 4 [.bool false]:=by
  rw [hw0,ha];have:=Blk.new (((w.alloc (.cells #[.pointer (some ⟨f,0,none⟩)] 63)).alloc (.cells #[.string s] 9)).alloc (.cells #[.int .i64 0] 3)) 4 [.bool false];simpa using this
 have hs0:w0.heap.size=a+4:=by rw [hw0,ha];simp
 have hc1:w0.cell? ⟨a,0,none⟩=some (.pointer (some ⟨f,0,none⟩)):=by rw [hb1.cell];rfl
 obtain ⟨q,A,c,n',m,cc,hn',hm,_,_,hcs,_,_,_,_⟩:=(h.fr.kp0 hk0).cells;have hmn:m=(n+7) / 8:=by rw [hm,starts_len,hn]
 have HB1:=Lib.hid hb1;have HB2:=Lib.hid hb2;have HB3:=Lib.hid hb3;have HB4:=Lib.hid hb4;have HK0:=Lib.hid hk0;have HW0:=Lib.hid hw0;have HA:=Lib.hid ha;have HMN:=Lib.hid hmn;have HS0:=Lib.hid hs0;have HAS:=Lib.hid (show ∀ i,i < 4→a+i ∉ S from fun i hi=>(h.new (o:=a+i) (by omega)).1);clear h hn hr ha hw0 hk0 hb1 hb2 hb3 hb4 hn' hm hs0 hmn
 go_enter Tryz.func37,Tryz.ntmps37
 go_wp2_with fail;rw [← HW0.out,← HA.out];refine (fthere_any w0 (HF.out.fr.kp0 HK0.out)).mono ?_;rintro e w1 ⟨rfl,rfl⟩;go_wp2_with fail;have hget:∀ i,i < m→∃ hd,ss[8 * i]? = some hd:=fun i hi=>⟨_,List.getElem?_eq_getElem (by have:=HMN.out;rw [HN.out];omega)⟩
 refine (search_inv (fun w'=>FroP w0 w' S lo hi lo' hi' f p T sg ls ss) 83 m #[.pointer (some ⟨a,0,none⟩),.pointer (some ⟨a+1,0,none⟩)] (fun i=>lexN (txt s) (txt (ss.getD (8 * i) ⟨#[]⟩))) w0 ⟨S,HF.out.kp0 HK0.out,Grow.refl _ _,Kp.refl _ _⟩ (enters_fn Tryz.func83 (by kernel_rfl) rfl) (by have:=HMN.out;omega)
  (fun w' i hI him=>by
   obtain ⟨S1,g1,g2,g3⟩:=hI;obtain ⟨hd,hhd⟩:=hget i him;have hS1:∀ j,j < 4→a+j ∉ S1:=fun j hj hm=>(g2 _ hm).elim (HAS.out j hj) (fun h=>by have:=HS0.out;omega)
   refine (find1_any i n lo hi lo' hi' f p a (a+1) S1 T sg ls ss hd s w' g1 HN.out hn9 hhd (HB1.out.kp g3 (HAS.out 0 (by omega))) (HB2.out.kp g3 (HAS.out 1 (by omega))) (hS1 0 (by omega)) (hS1 1 (by omega))).mono ?_;rintro e w2 ⟨rfl,hfp⟩;refine ⟨?_,hfp.trans g3 g2⟩;rw [List.getD_eq_getElem?_getD,hhd]
   rfl)
  (fun x y hxy hy hx=>by
   obtain ⟨hx1,h1⟩:=hget x (by omega);obtain ⟨hy1,h2⟩:=hget y hy;rw [List.getD_eq_getElem?_getD,h1] at hx;rw [List.getD_eq_getElem?_getD,h2];by_cases e:x=y
   ·subst e;rw [h1] at h2;injection h2 with h2
    subst h2;exact hx
   ·exact lexN_trans hx (rise_lt HR.out (show 8 * x < 8 * y by omega) h1 h2))).mono ?_
 rintro e w1 ⟨k,rfl,hkm,hlo,hhi,S1,g1,g2,g3⟩
 have HLO:=Lib.hid (show ∀ b hd,b < k→ss[8 * b]? = some hd→lexN (txt s) (txt hd)=false from fun b hd hb hhd=>by
  have:=hlo b hb;rw [List.getD_eq_getElem?_getD,hhd] at this
  exact this)
 have HHI:=Lib.hid (show ∀ hd,k < m→ss[8 * k]? = some hd→lexN (txt s) (txt hd)=true from fun hd hb hhd=>by
  have:=hhi k (Nat.le_refl _) hb;rw [List.getD_eq_getElem?_getD,hhd] at this
  exact this)
 have G1:=Lib.hid g1;have G2:=Lib.hid g2;have G3:=Lib.hid g3;have HS1:=Lib.hid (show ∀ j,j < 4→a+j ∉ S1 from fun j hj hm=>(g2 _ hm).elim (HAS.out j hj) (fun h=>by have:=HS0.out;omega));have HX2:=Lib.hid (HB2.out.kp g3 (HAS.out 1 (by omega)));have HX3:=Lib.hid (HB3.out.kp g3 (HAS.out 2 (by omega)));have HX4:=Lib.hid (HB4.out.kp g3 (HAS.out 3 (by omega)));have hc1':w1.cell? ⟨a,0,none⟩=some (.pointer (some ⟨f,0,none⟩)):=by rw [(HB1.out.kp g3 (HAS.out 0 (by omega))).cell];rfl
 clear hlo hhi g1 g2 g3 hcs hc1;by_cases hk0:k=0
 ·subst hk0
  have HFN:=Lib.hid (show findN ss s=0∧isF ss s=false from by
   have h0:∀ t,ss[0]? = some t→lexN (txt t) (txt s)=false:=fun t ht=>by
    have hl:=(List.getElem?_eq_some_iff.1 ht).1;exact lexN_asymm _ _ (HHI.out t (by have:=HMN.out;rw [HN.out] at hl;omega) ht)
   have e:=findN_eq (ss:=ss) (s:=s) (k:=0) (fun i t hi=>by omega) (by omega) h0;refine ⟨e,?_⟩;unfold isF;rw [e];refine decide_eq_false (fun h=>?_);have hl:=(List.getElem?_eq_some_iff.1 h).1;have:=HHI.out s (by have:=HMN.out;rw [HN.out] at hl;omega) h;rw [lexN_irrefl] at this
   cases this)
  have hx3:=HX3.out;have hx4:=HX4.out;have hc3:w1.cell? ⟨a+1+1,0,none⟩=some (.int .i64 0):=by rw [hx3.cell];rfl
  have hf3:=hx3.free 0;have hx41:=hx4.far (p:=⟨a+1+1,0,none⟩) (by simp) (.int .i64 0);have hc4:(w1.setCell ⟨a+1+1,0,none⟩ (.int .i64 0)).cell? ⟨a+1+1+1,0,none⟩=some (.bool false):=by rw [hx41.cell];rfl
  have hf4:=hx41.free 0;have hkw:Kp S w w1:=(HK0.out.mono (by simp):Kp S w w0).trans G3.out;obtain ⟨w3,hw3⟩:∃ w3,w3=(w1.setCell ⟨a+1+1,0,none⟩ (.int .i64 0)).setCell ⟨a+1+1+1,0,none⟩ (.bool false):=⟨_,rfl⟩;have hb3:Blk w3 (a+1+1) 3 [.int .i64 0]:=by rw [hw3];exact (hx3.set_ 0 (.int .i64 0)).far (p:=⟨a+1+1+1,0,none⟩) (by simp) _
  have hb4:Blk w3 (a+1+1+1) 4 [.bool false]:=by rw [hw3];exact hx41.set_ 0 (.bool false)
  have hks:Kp [a+1+1,a+1+1+1] w1 w3:=by rw [hw3];exact ((Kp.refl [a+1+1,a+1+1+1] w1).setCell (.inl (by simp)) _).setCell (.inl (by simp)) _
  have hnu:∀ g ∈ [a+1+1,a+1+1+1],g ∉ S1∧(g < lo ∨ hi≤g)∧(g < lo' ∨ hi'≤g)∧g ≠ 0:=fun g hg=>by
   have e0:=HA.out;simp only [List.mem_cons,List.not_mem_nil,or_false] at hg
   rcases hg with rfl | rfl
   ·have q:=HNEW.out (a+1+1) (by omega);exact ⟨HS1.out 2 (by omega),q.2.1,q.2.2.1,q.2.2.2⟩
   ·have q:=HNEW.out (a+1+1+1) (by omega);exact ⟨HS1.out 3 (by omega),q.2.1,q.2.2.1,q.2.2.2⟩
  have HEND:=Lib.hid (show FroP w w3 S lo hi lo' hi' f p T sg ls ss from ⟨S1,G1.out.kp hks hnu,fun g hm=>(G2.out g hm).elim .inl (fun h=>.inr (Nat.le_trans HK0.out.size h)),hkw.trans' hks (fun x hx=>by
   have e0:=HA.out;simp only [List.mem_cons,List.not_mem_nil,or_false] at hx
   exact .inr (by omega))⟩)
  have HQ3:=Lib.hid (show w3.cell? ⟨a+1+1,0,none⟩=some (.int .i64 0) from by rw [hb3.cell];rfl);have HQ4:=Lib.hid (show w3.cell? ⟨a+1+1+1,0,none⟩=some (.bool false) from by rw [hb4.cell];rfl);have HW3:=Lib.hid hw3;clear hx3 hx4 hx41 hkw hb3 hb4 hks hnu hw3 hkm;go_wp2_with fail
  (try simp only [Exit.inBlock,Exit.then])
  rw [← HW3.out];refine bodyPost_ret (v:=.tuple #[.int .i64 0,.bool false]) (results_cell2 rfl _ _ ⟨a+1+1,0,none⟩ ⟨a+1+1+1,0,none⟩ _ _ rfl rfl HQ3.out HQ4.out (agg_int _) (agg_bool _)) rfl ⟨?_,HEND.out⟩;rw [HFN.out.1,HFN.out.2];rfl
 ·obtain ⟨b,rfl⟩:∃ b,k=b+1:=⟨k - 1,by omega⟩;have hbi0:(0:Int)≤(b:Int):=by omega
  have hbi1:(b:Int)≤1000000:=by have:=HMN.out;omega
  obtain ⟨hd,hhd⟩:=hget b (by omega);have h8b:8 * b < n:=by rw [← HN.out];exact (List.getElem?_eq_some_iff.1 hhd).1
  have HAHEAD:=Lib.hid (find_bucket HR.out hhd (HLO.out b hd (by omega) hhd));obtain ⟨E,hE⟩:∃ E,E=min (8 * b+8) n:=⟨_,rfl⟩;go_wp2_with fail
  refine (fwalk_any 86 b n E lo hi lo' hi' f p #[.pointer (some ⟨a+1,0,none⟩),.pointer (some ⟨a+1+1,0,none⟩),.pointer (some ⟨a+1+1+1,0,none⟩)] S1 [a+1,a+1+1,a+1+1+1]
   (fun j w'=>∃ (n0:Int) (b0:Bool),Blk w' (a+1) 9 [.string s]∧Blk w' (a+1+1) 3 [.int .i64 n0]∧Blk w' (a+1+1+1) 4 [.bool b0]∧(8 * b < j→∃ t,ss[j - 1]? = some t∧n0=(if lexN (txt t) (txt s) then ((j - 1:Nat):Int)+1 else ((j - 1:Nat):Int))∧b0=decide (t=s)))
   (fun j=>lexN (txt (ss.getD j ⟨#[]⟩)) (txt s)) T sg ls ss w1 G1.out HN.out hn9 h8b hE (enters_fn Tryz.func86 (by kernel_rfl) rfl)
   ⟨_,_,HX2.out,HX3.out,HX4.out,fun h=>by omega⟩ (fun j v1 v2 X q1 q2 q3=>by obtain ⟨n0,b0,r1,r2,r3,r4⟩:=q1;exact ⟨n0,b0,r1.kp q2 (q3 _ (by simp)),r2.kp q2 (q3 _ (by simp)),r3.kp q2 (q3 _ (by simp)),r4⟩)
   (fun x hx=>by
    simp only [List.mem_cons,List.not_mem_nil,or_false] at hx
    have e0:=HA.out;have e1:=HS0.out;have e2:=G3.out.size;rcases hx with rfl | rfl | rfl
    ·have q:=HNEW.out (a+1) (by omega);exact ⟨HS1.out 1 (by omega),q.2.1,q.2.2.1,q.2.2.2,by omega⟩
    ·have q:=HNEW.out (a+1+1) (by omega);exact ⟨HS1.out 2 (by omega),q.2.1,q.2.2.1,q.2.2.2,by omega⟩
    ·have q:=HNEW.out (a+1+1+1) (by omega);exact ⟨HS1.out 3 (by omega),q.2.1,q.2.2.1,q.2.2.2,by omega⟩)
   (fun j t v1 q1 q2 q3 q4=>by
    obtain ⟨n0,b0,r1,r2,r3,_⟩:=q4;refine (find2_any (a+1) (a+1+1) (a+1+1+1) j s t n0 b0 v1 r1 r2 r3 (by omega) (by omega) (by omega) (by omega)).mono ?_;rintro e v2 ⟨rfl,c1,c2,c3⟩;refine ⟨?_,⟨_,_,r1.kp c3 (by simp),c1,c2,fun _=>⟨t,by rw [Nat.add_sub_cancel];exact q3,by rw [Nat.add_sub_cancel],eq_beq t s⟩⟩,c3.mono (by simp)⟩;rw [List.getD_eq_getElem?_getD,q3]
    rfl)).mono ?_
  have hE1:E≤n:=by omega
  have hE3:E=n ∨ E=8 * b+8:=by omega
  clear hE;rintro e w2 ⟨rfl,⟨j,j1,j2,⟨n0,b0,r1,r2,r3,r4⟩,j3,j4⟩,S2,f1,y1,k1⟩
  have hj:8 * b < j:=by
   rcases j4 with j4 | ⟨i,i1,i2,_⟩
   ·omega
   ·omega
  have hjn:j≤n:=by omega
  obtain ⟨t,ht,hn0,hb0⟩:=r4 hj;have HN0:=Lib.hid hn0;clear hn0 r4
  have hpre:∀ i u,i+1 < j→ss[i]? = some u→lexN (txt u) (txt s)=true:=fun i u hi hu=>by
   by_cases h:i < 8 * b
   ·exact HAHEAD.out i u h hu
   ·have h9:lexN (txt (ss.getD i ⟨#[]⟩)) (txt s)=true:=j3 i (by omega) hi;rw [List.getD_eq_getElem?_getD,hu] at h9;exact h9
  have HRES:=Lib.hid (show n0=((findN ss s:Nat):Int)∧b0=isF ss s from by
   cases hx:lexN (txt t) (txt s) with
   | false =>
     have e:=findN_eq (ss:=ss) (s:=s) (k:=j - 1) (fun i u hi hu=>hpre i u (by omega) hu) (by rw [HN.out];omega) (fun u hu=>by rw [ht] at hu;injection hu with hu;subst hu;exact hx);refine ⟨by rw [HN0.out,hx,e];rfl,?_⟩;unfold isF;rw [e,hb0,ht]
     simp
   | true =>
     have hlast:∀ u,ss[j]? = some u→lexN (txt s) (txt u)=true:=fun u hu=>by
      have hl:=(List.getElem?_eq_some_iff.1 hu).1;rcases j4 with j4 | ⟨i,i1,i2,i3⟩
      ·refine HHI.out u (by have:=HMN.out;rw [HN.out] at hl;omega) ?_;rw [show 8 * (b+1)=j from by rw [HN.out] at hl;omega];exact hu
      ·rw [show j - 1=i from by omega] at ht;have i4:lexN (txt (ss.getD i ⟨#[]⟩)) (txt s)=false:=i3;rw [List.getD_eq_getElem?_getD,ht] at i4;have i5:lexN (txt t) (txt s)=false:=i4;rw [hx] at i5
       cases i5
     have e:=findN_eq (ss:=ss) (s:=s) (k:=j) (fun i u hi hu=>by
      by_cases h:i+1 < j
      ·exact hpre i u h hu
      ·rw [show i=j - 1 by omega,ht] at hu;injection hu with hu
       subst hu
       exact hx) (by rw [HN.out];exact hjn) (fun u hu=>lexN_asymm _ _ (hlast u hu))
     refine ⟨by rw [HN0.out,hx,e];simp only [if_true];omega,?_⟩;unfold isF
     rw [e,hb0,decide_eq_false (fun h=>by rw [h,lexN_irrefl] at hx;cases hx),decide_eq_false (fun h=>by have:=hlast s h;rw [lexN_irrefl] at this;cases this)])
  obtain ⟨rfl,rfl⟩:=HRES.out;have hkw:Kp S w w1:=(HK0.out.mono (by simp):Kp S w w0).trans G3.out;have hg12:Grow w S S2:=fun g hm=>(y1 g hm).elim (fun h=>(G2.out g h).elim .inl (fun h=>.inr (Nat.le_trans HK0.out.size h))) (fun h=>.inr (Nat.le_trans hkw.size h))
  have hk2:Kp S w w2:=hkw.trans' k1 (fun x hx=>by
   rcases List.mem_append.1 hx with h | h
   ·exact (G2.out x h).elim .inl (fun h=>.inr (Nat.le_trans HK0.out.size h))
   ·have e0:=HA.out;simp only [List.mem_cons,List.not_mem_nil,or_false] at h
    exact .inr (by omega))
  have hc3:w2.cell? ⟨a+1+1,0,none⟩=some (.int .i64 ((findN ss s:Nat):Int)):=by rw [r2.cell];rfl
  have hf3:=r2.free 0;have hc4:w2.cell? ⟨a+1+1+1,0,none⟩=some (.bool (isF ss s)):=by rw [r3.cell];rfl
  have hf4:=r3.free 0;have HEQ:=Lib.hid (show ∀ j,j < 4→a+j ∉ S2 from fun j hj hm=>(y1 _ hm).elim (HS1.out j hj) (fun h=>by have e1:=HS0.out;have e2:=G3.out.size;omega));have HF1:=Lib.hid f1;have HG12:=Lib.hid hg12;have HK2:=Lib.hid hk2;have HR2:=Lib.hid r2;have HR3:=Lib.hid r3;clear j1 j2 j3 j4 r1 r2 r3 ht hb0 hpre HN0 f1 y1 k1 hg12 hk2 hkw hc1' hhd hj HX2 HX3 HX4;go_wp2_with fail
  go_region
  obtain ⟨w3,hw3⟩:∃ w3,w3=((w2.setCell ⟨a+1+1,0,none⟩ (.int .i64 ((findN ss s:Nat):Int))).setCell ⟨a+1+1+1,0,none⟩ (.bool (isF ss s))).drew:=⟨_,rfl⟩;rw [← hw3];have hb3:Blk w3 (a+1+1) 3 [.int .i64 ((findN ss s:Nat):Int)]:=by rw [hw3];exact ((HR2.out.set_ 0 (.int .i64 ((findN ss s:Nat):Int))).far (p:=⟨a+1+1+1,0,none⟩) (by simp) _).drew
  have hb4:Blk w3 (a+1+1+1) 4 [.bool (isF ss s)]:=by rw [hw3];exact ((HR3.out.far (p:=⟨a+1+1,0,none⟩) (by simp) _).set_ 0 (.bool (isF ss s))).drew
  have hks:Kp [a+1+1,a+1+1+1] w2 w3:=by rw [hw3];exact (((Kp.refl [a+1+1,a+1+1+1] w2).setCell (.inl (by simp)) _).setCell (.inl (by simp)) _).drew
  have hnu:∀ g ∈ [a+1+1,a+1+1+1],g ∉ S2∧(g < lo ∨ hi≤g)∧(g < lo' ∨ hi'≤g)∧g ≠ 0:=fun g hg=>by
   have e0:=HA.out;simp only [List.mem_cons,List.not_mem_nil,or_false] at hg
   rcases hg with rfl | rfl
   ·have q:=HNEW.out (a+1+1) (by omega);exact ⟨HEQ.out 2 (by omega),q.2.1,q.2.2.1,q.2.2.2⟩
   ·have q:=HNEW.out (a+1+1+1) (by omega);exact ⟨HEQ.out 3 (by omega),q.2.1,q.2.2.1,q.2.2.2⟩
  have hend:FroP w w3 S lo hi lo' hi' f p T sg ls ss:=⟨S2,HF1.out.kp hks hnu,HG12.out,HK2.out.trans' hks (fun x hx=>by
   have e0:=HA.out;simp only [List.mem_cons,List.not_mem_nil,or_false] at hx
   exact .inr (by omega))⟩
  have hq3:w3.cell? ⟨a+1+1,0,none⟩=some (.int .i64 ((findN ss s:Nat):Int)):=by rw [hb3.cell];rfl
  have hq4:w3.cell? ⟨a+1+1+1,0,none⟩=some (.bool (isF ss s)):=by rw [hb4.cell];rfl
  clear hw3;go_wp2_with fail
  (try simp only [Exit.inBlock,Exit.then])
  exact bodyPost_ret (v:=.tuple #[.int .i64 ((findN ss s:Nat):Int),.bool (isF ss s)]) (results_cell2 rfl _ _ ⟨a+1+1,0,none⟩ ⟨a+1+1+1,0,none⟩ _ _ rfl rfl hq3 hq4 (agg_int _) (agg_bool _)) rfl ⟨rfl,hend⟩
end Go.Proofs.YtanacapkfllbnaaGreatDoor
namespace Go.Proofs.YtanacapkfllbnaaGreatDoor

def LtT (a b:ByteArray):Prop:=lexN (txt a) (txt b)=true
theorem findN_le (out:List ByteArray) (s:ByteArray):findN out s≤out.length:=(List.takeWhile_sublist _).length_le
theorem findN_pre:∀ (out:List ByteArray) (s:ByteArray) (i:Nat) (t:ByteArray),i < findN out s→out[i]? = some t→LtT t s
 | [],s,i,t,h,ht=>by simp at ht
 | x :: out,s,i,t,h,ht=>by
   unfold findN at h;rw [List.takeWhile_cons] at h
   cases hx:lexN (txt x) (txt s) with
   | false=>rw [hx] at h;simp at h
   | true =>
     rw [hx] at h
     cases i with
     | zero=>simp at ht;subst ht;exact hx
     | succ i =>
       have h':i < findN out s:=by unfold findN;simpa using h
       exact findN_pre out s i t h' (by simpa using ht)
theorem findN_at:∀ (out:List ByteArray) (s t:ByteArray),out[findN out s]? = some t→¬ LtT t s
 | [],s,t,ht=>by simp at ht
 | x :: out,s,t,ht=>by
   unfold findN at ht;rw [List.takeWhile_cons] at ht
   cases hx:lexN (txt x) (txt s) with
   | false =>
     rw [hx] at ht
     simp at ht
     subst ht;unfold LtT;rw [hx]
     simp
   | true =>
     rw [hx] at ht;simp only [if_true,List.length_cons,List.getElem?_cons_succ] at ht
     exact findN_at out s t ht
end Go.Proofs.YtanacapkfllbnaaGreatDoor
namespace Go.Proofs.YtanacapkfllbnaaGreatDoor
open Go.RowKit

section
variable {w0 w w':World} {SF SR:List Nat} {lo1 hi1 f lo2 hi2 r lo hi p:Nat} {T:CT} {sg:List Nat} {ls:List Int} {ss:List ByteArray}
end
theorem find_in {ss:List ByteArray} {s:ByteArray} {k:Nat} (hr:riseT ss=true) (h:ss[k]? = some s):findN ss s=k∧isF ss s=true:=by
 have hk:k < ss.length:=(List.getElem?_eq_some_iff.1 h).1;have e:findN ss s=k:=findN_eq (fun i t hi ht=>rise_lt hr hi ht h) (by omega) (fun t ht=>by rw [h] at ht;injection ht with ht;rw [ht];exact lexN_irrefl _);exact ⟨e,by unfold isF;rw [e];simp [h]⟩
theorem FrM.low {w:World} {lo hi f p:Nat} {S:List Nat} {T:CT} {ss:List ByteArray} (h:FrM w lo hi S f p T ss):∀ g ∈ S,lo≤g:=by
 obtain ⟨_,_,_,_,_,_,_,_,_,_,_,k,_⟩:=h;exact k
end Go.Proofs.YtanacapkfllbnaaGreatDoor
namespace Go.Proofs.YtanacapkfllbnaaGreatDoor
open Go.RowKit

def pieceS (ts:List ByteArray) (k:Nat):ByteArray:=match ts[k]? with
 | none=>⟨#[]⟩
 | some s=>if k % 8=0 then s else s.extract (alikeN (prevT ts k) (txt s)) s.size
def piecesL (ts:List ByteArray) (k:Nat):List ByteArray:=(List.range k).map (pieceS ts)
theorem piecesL_len (ts:List ByteArray) (k:Nat):(piecesL ts k).length=k:=by unfold piecesL;rw [List.length_map,List.length_range]
theorem piecesL_succ (ts:List ByteArray) (k:Nat):piecesL ts (k+1)=piecesL ts k ++ [pieceS ts k]:=by unfold piecesL;rw [List.range_succ,List.map_append];rfl
theorem pieceS_first {ts:List ByteArray} {k:Nat} {s:ByteArray} (h:ts[k]? = some s) (hk:k % 8=0):pieceS ts k=s:=by unfold pieceS;rw [h];simp [hk]
theorem pieceS_rest {ts:List ByteArray} {k:Nat} {s t:ByteArray} (h:ts[k+1]? = some s) (ht:ts[k]? = some t) (hk:¬ (k+1) % 8=0):pieceS ts (k+1)=s.extract (alikeN (txt t) (txt s)) s.size:=by unfold pieceS;rw [h,prevT_succ ht];simp [hk]
theorem piece_has (ts:List ByteArray):∀ (k:Nat) (s:ByteArray),ts[k]? = some s→∀ x ∈ txt s,∃ j,j≤k∧x ∈ txt (pieceS ts j)
 | 0,s,h,x,hx=>⟨0,Nat.le_refl _,by rw [pieceS_first h rfl];exact hx⟩
 | k+1,s,h,x,hx=>by
   by_cases hk:(k+1) % 8=0
   ·exact ⟨k+1,Nat.le_refl _,by rw [pieceS_first h hk];exact hx⟩
   ·obtain ⟨t,ht⟩:∃ t,ts[k]? = some t:=⟨_,List.getElem?_eq_getElem (by have:=(List.getElem?_eq_some_iff.1 h).1;omega)⟩;have e:=(alikeN_le (txt t) (txt s)).2.2;rw [← List.take_append_drop (alikeN (txt t) (txt s)) (txt s)] at hx;rcases List.mem_append.1 hx with hx | hx
    ·rw [← e] at hx;obtain ⟨j,h1,h2⟩:=piece_has ts k t ht x (List.mem_of_mem_take hx);exact ⟨j,by omega,h2⟩
    ·exact ⟨k+1,Nat.le_refl _,by rw [pieceS_rest h ht hk,txt_tail];exact hx⟩
theorem piece_le (ts:List ByteArray) (k:Nat) (s:ByteArray) (h:ts[k]? = some s):(pieceS ts k).size≤s.size:=by
 unfold pieceS;rw [h];simp only
 split
 ·exact Nat.le_refl _
 ·rw [← txt_len,txt_tail,List.length_drop,txt_len];omega
theorem pieces_sym (ts:List ByteArray):∀ k,k≤ts.length→(symL (piecesL ts k)).length≤(symL (ts.take k)).length
 | 0,_=>by simp [piecesL,symL]
 | k+1,hk=>by
   have hg:ts[k]? = some ts[k]:=List.getElem?_eq_getElem (by omega);have h1:=pieces_sym ts k (by omega);have h2:=piece_le ts k _ hg;rw [piecesL_succ,symL_snoc,List.length_append,symT_len,show ts.take (k+1)=ts.take k ++ [ts[k]] from by rw [List.take_add_one,hg];rfl,symL_snoc,List.length_append,symT_len];omega
theorem pieces_cover (ts:List ByteArray) {s:ByteArray} (hs:s ∈ ts):∀ x ∈ symT s,x ∈ symL (piecesL ts ts.length):=by
 intro x hx;obtain ⟨k,hk,e⟩:=List.getElem_of_mem hs;have hg:ts[k]? = some s:=by rw [List.getElem?_eq_getElem hk,e]
 unfold symT at hx;rcases List.mem_cons.1 hx with rfl | hx
 ·exact List.mem_flatMap.2 ⟨pieceS ts k,List.mem_map.2 ⟨k,List.mem_range.2 hk,rfl⟩,by unfold symT;simp⟩
 ·obtain ⟨y,hy,rfl⟩:=List.mem_map.1 hx;obtain ⟨j,h1,h2⟩:=piece_has ts k s hg y hy;exact List.mem_flatMap.2 ⟨pieceS ts j,List.mem_map.2 ⟨j,List.mem_range.2 (by omega),rfl⟩,by unfold symT;exact List.mem_cons_of_mem _ (List.mem_map.2 ⟨y,h2,rfl⟩)⟩
def beginsN (a p:List Nat):Bool:=decide (a.take p.length=p)
def preC (ts:List ByteArray) (p:ByteArray):Nat:=((ts.drop (findN ts p)).takeWhile fun t=>beginsN (txt t) (txt p)).length
theorem begins_mid:∀ (p a b:List Nat),beginsN b p=true→lexN a p=false→(a=b ∨ lexN a b=true)→beginsN a p=true
 | [],a,b,_,_,_=>by unfold beginsN;simp
 | x :: p,a,b,hb,hp,hab=>by
   unfold beginsN at hb;rw [List.length_cons] at hb;have hb:=of_decide_eq_true hb
   cases b with
   | nil=>simp at hb
   | cons y b =>
     rw [List.take_succ_cons] at hb;injection hb with hb1 hb2
     subst hb1
     cases a with
     | nil=>simp [lexN] at hp
     | cons z a =>
       rcases hab with hab | hab
       ·injection hab with e1 e2
        subst e1 e2;unfold beginsN;rw [List.length_cons,List.take_succ_cons,hb2]
        simp
       ·have e1:z=y∧lexN a p=false∧lexN a b=true:=by
         unfold lexN at hp hab;by_cases h1:z < y
         ·simp [h1] at hp
         ·by_cases h2:z=y
          ·subst h2;exact ⟨rfl,by simpa using hp,by simpa using hab⟩
          ·simp [h1,h2] at hab
        obtain ⟨rfl,h2,h3⟩:=e1;have h4:=begins_mid p a b (by unfold beginsN;exact decide_eq_true hb2) h2 (.inr h3);unfold beginsN at h4 ⊢;rw [List.length_cons,List.take_succ_cons,of_decide_eq_true h4]
        simp
theorem begins_ge:∀ (p a:List Nat),beginsN a p=true→lexN a p=false
 | [],a,_=>by cases a <;> rfl
 | x :: p,a,h=>by
   unfold beginsN at h;rw [List.length_cons] at h;have h:=of_decide_eq_true h
   cases a with
   | nil=>simp at h
   | cons y a =>
     rw [List.take_succ_cons] at h;injection h with h1 h2
     subst h1;unfold lexN;have h3:=begins_ge p a (by unfold beginsN;exact decide_eq_true h2)
     simp [h3]
theorem preC_le (ts:List ByteArray) (p:ByteArray):findN ts p+preC ts p≤ts.length:=by
 have h1:preC ts p≤(ts.drop (findN ts p)).length:=(List.takeWhile_sublist _).length_le;have h2:=findN_le ts p;rw [List.length_drop] at h1;omega
theorem takeWhile_get {α:Type} (f:α→Bool):∀ (l:List α) (i:Nat) (x:α),i < (l.takeWhile f).length→l[i]? = some x→f x=true
 | [],i,x,_,h=>by cases h
 | y :: l,0,x,hi,h=>by
   injection h with h
   subst h;rw [List.takeWhile_cons] at hi
   split at hi
   ·assumption
   ·cases hi
 | y :: l,i+1,x,hi,h=>by
   rw [List.takeWhile_cons] at hi
   split at hi
   ·exact takeWhile_get f l i x (by simpa using hi) h
   ·cases hi
theorem takeWhile_end {α:Type} (f:α→Bool):∀ (l:List α) (x:α),l[(l.takeWhile f).length]? = some x→f x=false
 | [],x,h=>by cases h
 | y :: l,x,h=>by
   rw [List.takeWhile_cons] at h
   split at h
   ·exact takeWhile_end f l x (by simpa using h)
   ·rename_i hy
    have h:some y=some x:=h;injection h with h
    subst h;simpa using hy
theorem pre_in {ts:List ByteArray} {p:ByteArray} (hr:riseT ts=true) {i:Nat} {t:ByteArray} (ht:ts[i]? = some t):beginsN (txt t) (txt p)=decide (findN ts p≤i∧i < findN ts p+preC ts p):=by
 by_cases h1:findN ts p≤i
 ·by_cases h2:i < findN ts p+preC ts p
  ·rw [decide_eq_true ⟨h1,h2⟩];exact takeWhile_get (fun t=>beginsN (txt t) (txt p)) (ts.drop (findN ts p)) (i - findN ts p) t (by unfold preC at h2;omega) (by rw [List.getElem?_drop,show findN ts p+(i - findN ts p)=i by omega];exact ht)
  ·rw [decide_eq_false (by omega)]
   cases hb:beginsN (txt t) (txt p) with
   | false=>rfl
   | true =>
     have hi:=(List.getElem?_eq_some_iff.1 ht).1;obtain ⟨u,hu⟩:∃ u,ts[findN ts p+preC ts p]? = some u:=⟨_,List.getElem?_eq_getElem (by omega)⟩;have h3:=takeWhile_end (fun t=>beginsN (txt t) (txt p)) (ts.drop (findN ts p)) u (by rw [List.getElem?_drop];exact hu)
     have h4:lexN (txt u) (txt p)=false:=by
      by_cases h5:preC ts p=0
      ·rw [h5,Nat.add_zero] at hu
       cases h6:lexN (txt u) (txt p) with
       | false=>rfl
       | true=>exact absurd h6 (findN_at ts p u hu)
      ·obtain ⟨v,hv⟩:∃ v,ts[findN ts p]? = some v:=⟨_,List.getElem?_eq_getElem (by omega)⟩;have h6:=rise_lt hr (i:=findN ts p) (j:=findN ts p+preC ts p) (by omega) hv hu
       cases h7:lexN (txt u) (txt p) with
       | false=>rfl
       | true=>exact absurd (lexN_trans h6 h7) (findN_at ts p v hv)
     have h5:txt u=txt t ∨ lexN (txt u) (txt t)=true:=by
      by_cases h6:findN ts p+preC ts p=i
      ·rw [h6,ht] at hu;injection hu with hu
       exact .inl (by rw [hu])
      ·exact .inr (rise_lt hr (by omega) hu ht)
     have h6:=begins_mid (txt p) (txt u) (txt t) hb h4 h5;rw [h6] at h3
     cases h3
 ·rw [decide_eq_false (by omega)]
  cases hb:beginsN (txt t) (txt p) with
  | false=>rfl
  | true =>
    have h2:=findN_pre ts p i t (by omega) ht;unfold LtT at h2;rw [begins_ge _ _ hb] at h2
    cases h2
theorem pieceS_size {ss:List ByteArray} {k:Nat} {s:ByteArray} (hs:ss[k]? = some s):(pieceS ss k).size=(txt s).length - (if k % 8=0 then 0 else alikeN (prevT ss k) (txt s)):=by
 unfold pieceS;rw [hs];simp only
 split
 ·rw [txt_len];omega
 ·rw [← txt_len,txt_tail,List.length_drop]
theorem encD_le {T:CT} {sg:List Nat} {ls:List Int} (h:CodeT T sg ls) (t:List Nat) (j:Nat):(encD T t j).length≤256 * (t.length - j+1):=by
 unfold encD
 cases hv:T.enc (sgs (t.drop j)) with
 | none=>simp
 | some v =>
   have:=enc_bound h hv;unfold sgs at this;rw [List.length_append,List.length_map,List.length_drop] at this;simp only [List.length_singleton] at this
   exact this
theorem frontB_len2 {T:CT} {sg:List Nat} {ls:List Int} (h:CodeT T sg ls) (ss:List ByteArray) (hs:∀ s ∈ ss,s.size≤1000000):∀ k,k≤ss.length→(frontB T (ss.take k)).length≤300 * (symL (piecesL ss k)).length
 | 0,_=>by simp [frontB,frontL]
 | k+1,hk=>by
   have ih:=frontB_len2 h ss hs k (by omega);have hg:ss[k]? = some ss[k]:=List.getElem?_eq_getElem (by omega);have hal:=(alikeN_le (prevT ss k) (txt ss[k])).2.1;have hsz:=hs ss[k] (List.getElem_mem (by omega));rw [txt_len] at hal;have hb64:alikeN (prevT ss k) (txt ss[k])+1 < 2 ^ 64:=Nat.lt_of_le_of_lt (show _≤1000001 by omega) (by decide);have hb:bl (alikeN (prevT ss k) (txt ss[k])+1)≤20:=(bl_le_iff hb64 (by omega)).2 (Nat.lt_of_le_of_lt (show _≤1000001 by omega) (by decide));have hp:=pieceS_size hg
   have hq:(pieceF T k (prevT ss k) (txt ss[k])).length≤256 * ((pieceS ss k).size+1)+40:=by
    unfold pieceF
    split
    ·rename_i hk8
     rw [if_pos hk8] at hp;have:=encD_le h (txt ss[k]) 0;rw [hp];omega
    ·rename_i hk8
     rw [if_neg hk8] at hp;have:=encD_le h (txt ss[k]) (alikeN (prevT ss k) (txt ss[k]));rw [List.length_append,gamL_len hb64 (by omega),hp];omega
   rw [frontB_next T hg,List.length_append,piecesL_succ,symL_snoc,List.length_append,symT_len];omega
theorem pieces_front {T:CT} {sg:List Nat} {ls:List Int} (h:CodeT T sg ls) (ss:List ByteArray) (hs:∀ s ∈ ss,∃ r,encT T s=some r):∀ k,k≤ss.length→(symL (piecesL ss k)).length≤(frontB T (ss.take k)).length
 | 0,_=>by simp [piecesL,symL]
 | k+1,hk=>by
   have ih:=pieces_front h ss hs k (by omega);have hg:ss[k]? = some ss[k]:=List.getElem?_eq_getElem (by omega);obtain ⟨r,hr⟩:=hs ss[k] (List.getElem_mem (by omega));have hp:=pieceS_size hg
   have he:∀ j,(txt ss[k]).length - j+1≤(encD T (txt ss[k]) j).length:=fun j=>by
    obtain ⟨u,v,hv,_⟩:=enc_rest (show T.enc (sgs (txt ss[k]))=some r from hr) j;have h1:=enc_ge h hv;unfold sgs at h1;rw [List.length_append,List.length_map,List.length_drop] at h1;simp only [List.length_singleton] at h1
    unfold encD;rw [hv];exact h1
   have hq:(pieceS ss k).size+1≤(pieceF T k (prevT ss k) (txt ss[k])).length:=by
    unfold pieceF
    split
    ·rename_i hk8
     rw [if_pos hk8] at hp;have:=he 0;rw [hp];omega
    ·rename_i hk8
     rw [if_neg hk8] at hp;have:=he (alikeN (prevT ss k) (txt ss[k]));rw [List.length_append,hp];omega
   rw [frontB_next T hg,List.length_append,piecesL_succ,symL_snoc,List.length_append,symT_len];omega
def onesK (bs:List Bool) (j:Nat):List Nat:=(List.range j).filter fun i=>bs.getD i false
def onesL (bs:List Bool):List Nat:=onesK bs bs.length
theorem onesK_yes {bs:List Bool} {j:Nat} (h:bs[j]? = some true):onesK bs (j+1)=onesK bs j ++ [j]:=by
 unfold onesK;rw [List.range_succ,List.filter_append,List.filter_cons,if_pos (by rw [List.getD_eq_getElem?_getD,h];rfl)];rfl
theorem onesK_no {bs:List Bool} {j:Nat} (h:bs[j]? = some false):onesK bs (j+1)=onesK bs j:=by
 unfold onesK;rw [List.range_succ,List.filter_append,List.filter_cons,if_neg (by rw [List.getD_eq_getElem?_getD,h];simp)]
 simp
theorem onesK_len (bs:List Bool):∀ j,j≤bs.length→(onesK bs j).length=cntI bs j
 | 0,_=>by simp [onesK,cntI]
 | j+1,hj=>by
   have ih:=onesK_len bs j (by omega);have hg:bs[j]? = some bs[j]:=List.getElem?_eq_getElem (by omega);rw [cntI_next hg]
   cases hb:bs[j] with
   | true=>rw [hb] at hg;rw [onesK_yes hg,List.length_append,ih];rfl
   | false=>rw [hb] at hg;rw [onesK_no hg,ih];rfl
theorem onesL_len (bs:List Bool):(onesL bs).length=bs.count true:=by
 unfold onesL;rw [onesK_len bs _ (Nat.le_refl _)];unfold cntI;rw [List.take_length]
theorem onesL_le (bs:List Bool):(onesL bs).length≤bs.length:=by rw [onesL_len];exact List.count_le_length
theorem onesK_sel (bs:List Bool) (k i:Nat):∀ j,j≤bs.length→(onesK bs j)[k]? = some i→IsSel bs k i
 | 0,_,h=>by simp [onesK] at h
 | j+1,hj,h=>by
   have ih:=onesK_sel bs k i j (by omega);have hl:=onesK_len bs j (by omega);have hg:bs[j]? = some bs[j]:=List.getElem?_eq_getElem (by omega)
   cases hb:bs[j] with
   | true =>
     rw [hb] at hg;rw [onesK_yes hg,List.getElem?_append] at h;by_cases hk:k < (onesK bs j).length
     ·rw [if_pos hk] at h;exact ih h
     ·rw [if_neg hk] at h;obtain ⟨h1,h2⟩:=List.getElem?_eq_some_iff.1 h;have h1':k - (onesK bs j).length < 1:=h1;simp only [List.getElem_singleton] at h2
      subst h2;exact ⟨hg,by show cntI bs j=k;omega⟩
   | false =>
     rw [hb] at hg;rw [onesK_no hg] at h;exact ih h
theorem ones_selI {bs:List Bool} {k i:Nat} (h:(onesL bs)[k]? = some i):selI bs (k:Int)=(i:Int):=by
 have h1:=selO_some (bs:=bs) (k:=(k:Int)) (i:=i) (by omega) (by rw [Int.toNat_natCast];exact onesK_sel bs k i _ (Nat.le_refl _) h);unfold selI;rw [h1];rfl
end Go.Proofs.YtanacapkfllbnaaGreatDoor
