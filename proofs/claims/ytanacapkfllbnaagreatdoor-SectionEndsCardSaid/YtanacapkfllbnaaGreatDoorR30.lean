/-
  LAYER 3: the writer in memory; spoil, sound, there, Put, Len, NewWriter.
  LAYER 3: each: numbers put one behind the other, by what may be and what is made of them.
  LAYER 3: Number, Gamma, Vec of the writer.
  CONDITIONS: as each lemma says.
-/
import Derived.Test.YtanacapkfllbnaaGreatDoorR29
import Derived.Test.YtanacapkfllbnaaGreatDoorR03
import Derived.Test.YtanacapkfllbnaaGreatDoorR01
import Derived.Test.YtanacapkfllbnaaGreatDoorR10
import Derived.Laws.BitsLemmas
import Derived.Deep.QuietTactic
import Derived.BigQuiet
set_option maxRecDepth 100000
set_option maxHeartbeats 4000000
namespace Go.Proofs.YtanacapkfllbnaaGreatDoor
open Go.RowKit

def WrM (w:World) (S:List Nat) (p:Nat) (s:WS):Prop:=∃ (A:Option Addr) (c:Nat),Blk w p 179 [.int .i64 s.2,.slice A s.1.length c,.bool true]∧w.ownsRow 0 4 1 (.slice A s.1.length c) s.1.length (s.1.map .bool)∧s.1.length≤16777216∧S=p :: ownL (.slice A s.1.length c)
theorem WrM.lt {w:World} {S:List Nat} {p:Nat} {s:WS} (h:WrM w S p s):∀ g ∈ S,g < w.heap.size:=by
 obtain ⟨A,c,h1,h2,_,rfl⟩:=h;intro x hx;simp only [List.mem_cons] at hx
 rcases hx with rfl | hx
 ·exact h1.lt
 ·exact (own_ge h2 (mem_ownL.1 hx)).2
theorem WrM.kp {w w':World} {S T:List Nat} {p:Nat} {s:WS} (h:WrM w S p s) (hk:Kp T w w') (hd:∀ g ∈ S,g ∉ T):WrM w' S p s:=by
 obtain ⟨A,c,h1,h2,h3,rfl⟩:=h;exact ⟨A,c,h1.kp hk (hd p (by simp)),own_kp h2 hk (fun x hx=>hd x (by simp [mem_ownL,hx])),h3,rfl⟩
theorem WrM.kp0 {w w':World} {S:List Nat} {p:Nat} {s:WS} (h:WrM w S p s) (hk:Kp [] w w'):WrM w' S p s:=h.kp hk (by simp)
theorem Kp.kp0 {S:List Nat} {a b c:World} (h:Kp S a b) (k:Kp [] b c):Kp S a c:=h.trans (k.mono (by simp))
theorem Grow.far {w:World} {S T U:List Nat} (hg:Grow w S T) (hd:∀ x ∈ U,x ∉ S) (hl:∀ x ∈ U,x < w.heap.size):∀ x ∈ U,x ∉ T:=fun x hx hm=>by
 rcases hg x hm with h | h
 ·exact hd x hx h
 ·have:=hl x hx;omega
theorem sound_ok (p:Nat) (T:TypeId) (rest:List Value) (w:World) (h:Blk w p T (.int .i64 0 :: rest)):Calls Tryz.prog 124 #[.pointer (some ⟨p,0,none⟩)] w fun e w'=>e=.returned (.bool true)∧w=w':=by
 have hc:w.cell? ⟨p,0,none⟩=some (.int .i64 0):=by rw [h.cell];rfl
 clear h
 go_enter Tryz.func124,Tryz.ntmps124
 go_wp2_with fail;go_ret;exact ⟨rfl,rfl⟩
theorem sound_no (p:Nat) (T:TypeId) (err:Int) (rest:List Value) (w:World) (h:Blk w p T (.int .i64 err :: rest)) (he:err ≠ 0):Calls Tryz.prog 124 #[.pointer (some ⟨p,0,none⟩)] w fun e w'=>e=.returned (.bool false)∧w=w':=by
 have hc:w.cell? ⟨p,0,none⟩=some (.int .i64 err):=by rw [h.cell];rfl
 have hb:(err == 0)=false:=by simpa using he
 clear h he
 go_enter Tryz.func124,Tryz.ntmps124
 go_wp2_with fail;go_ret;exact ⟨rfl,rfl⟩
theorem spoil_new (p:Nat) (T:TypeId) (E:Int) (rest:List Value) (w:World) (h:Blk w p T (.int .i64 0 :: rest)):Calls Tryz.prog 155 #[.pointer (some ⟨p,0,none⟩),.int .i64 E] w fun e w'=>e=.returned (.int .i64 E)∧Blk w' p T (.int .i64 E :: rest)∧Kp [p] w w':=by
 have hc:w.cell? ⟨p,0,none⟩=some (.int .i64 0):=by rw [h.cell];rfl
 have hf:=h.free 0;have H:=Lib.hid (h.set_ 0 (.int .i64 E));clear h
 go_enter Tryz.func155,Tryz.ntmps155
 go_wp2_with fail;go_ret;exact ⟨rfl,H.out,(Kp.refl [p] w).setCell (.inl (by simp)) _⟩
theorem spoil_old (p:Nat) (T:TypeId) (E err:Int) (rest:List Value) (w:World) (h:Blk w p T (.int .i64 err :: rest)) (he:err ≠ 0):Calls Tryz.prog 155 #[.pointer (some ⟨p,0,none⟩),.int .i64 E] w fun e w'=>e=.returned (.int .i64 err)∧w=w':=by
 have hc:w.cell? ⟨p,0,none⟩=some (.int .i64 err):=by rw [h.cell];rfl
 have hb:(err == 0)=false:=by simpa using he
 clear h he
 go_enter Tryz.func155,Tryz.ntmps155
 go_wp2_with fail;go_ret;exact ⟨rfl,rfl⟩
theorem wthere_any (S:List Nat) (p:Nat) (s:WS) (w:World) (h:WrM w S p s):Calls Tryz.prog 117 #[.pointer (some ⟨p,0,none⟩)] w fun e w'=>e=.returned (.bool true)∧w=w':=by
 have hc:w.cell? ⟨p,2,none⟩=some (.bool true):=by obtain ⟨A,c,h1,_⟩:=h;rw [h1.cell];rfl
 clear h
 go_enter Tryz.func117,Tryz.ntmps117
 go_wp2_with fail;go_ret;exact ⟨rfl,rfl⟩
theorem wnew_any (w:World):Calls Tryz.prog 65 #[] w fun e w'=>∃ S p,e=.returned (.pointer (some ⟨p,0,none⟩))∧WrM w' S p ([],0)∧(∀ x ∈ S,w.heap.size≤x)∧Kp [] w w':=by
 go_enter Tryz.func65,Tryz.ntmps65
 go_wp2_with fail;go_ret;exact ⟨[w.heap.size],w.heap.size,rfl,⟨none,0,Blk.new w 179 [.int .i64 0,.slice none 0 0,.bool true],World.ownsRow_nil _ _ _ 1,by simp,rfl⟩,(by simp),(Kp.refl [] w).alloc _⟩
theorem wlen_any (S:List Nat) (p:Nat) (s:WS) (n:Nat) (w:World) (h:WrM w S p s) (hn:s.1.length=n):Calls Tryz.prog 66 #[.pointer (some ⟨p,0,none⟩)] w fun e w'=>e=.returned (.int .i64 (n:Int))∧w=w':=by
 obtain ⟨A,c,hc⟩:∃ A c,w.cell? ⟨p,1,none⟩=some (.slice A n c):=by obtain ⟨A,c,h1,_⟩:=h;exact ⟨A,c,by rw [h1.cell,← hn];rfl⟩
 have H:=Lib.hid h;clear h;have HN:=Lib.hid hn;clear hn
 go_enter Tryz.func66,Tryz.ntmps66
 go_wp2_with fail;refine (wthere_any S p s w H.out).mono ?_;rintro e w1 ⟨rfl,rfl⟩;go_wp2_with fail;go_ret;exact ⟨rfl,rfl⟩
def WPost (w w':World) (S:List Nat) (p:Nat) (s:WS):Prop:=∃ S',WrM w' S' p s∧Kp S w w'∧Grow w S S'
theorem WPost.refl {w:World} {S:List Nat} {p:Nat} {s:WS} (h:WrM w S p s):WPost w w S p s:=⟨S,h,Kp.refl _ _,Grow.refl _ _⟩
theorem wspoil {w w':World} {S:List Nat} {p:Nat} {L:List Bool} {A:Option Addr} {c:Nat} {E:Int} (h:Blk w' p 179 [.int .i64 E,.slice A L.length c,.bool true]) (ho:w.ownsRow 0 4 1 (.slice A L.length c) L.length (L.map .bool)) (hp:Blk w p 179 [.int .i64 0,.slice A L.length c,.bool true]) (hl:L.length≤16777216) (hS:S=p :: ownL (.slice A L.length c)) (hk:Kp [p] w w'):WPost w w' S p (L,E):=by
 refine ⟨S,⟨A,c,h,own_kp ho hk (fun b hb hm=>?_),hl,hS⟩,hk.mono (by intro x hx;simp only [List.mem_singleton] at hx;subst hx;rw [hS];simp),Grow.refl _ _⟩;simp only [List.mem_singleton] at hm
 subst hm;obtain ⟨l,hB⟩:=own_blk_some ho hb;exact absurd rfl (hB.ne hp (by decide))
theorem wput_any (S:List Nat) (p n m c B:Nat) (A:Option Addr) (l:List Bool) (s:WS) (w:World) (h:WrM w S p s) (hn:s.1.length=n) (hx:Rd w B A (l.map .bool)) (hl:l.length=m) (hm:m≤1000000000) :
  Calls Tryz.prog 123 #[.pointer (some ⟨p,0,none⟩),.slice A m c] w fun e w'=>e=.returned (.int .i64 (wPut s l).2)∧WPost w w' S p (wPut s l):=by
 obtain ⟨L,err⟩:=s;have HH:=Lib.hid h;obtain ⟨A0,c0,h1,h2,h3,hS⟩:=h;have hn':L.length=n:=hn;have h1':Blk w p 179 [.int .i64 err,.slice A0 n c0,.bool true]:=by rw [← hn'];exact h1
 have h3':n≤16777216:=by rw [← hn'];exact h3
 have hc0:w.cell? ⟨p,0,none⟩=some (.int .i64 err):=by rw [h1'.cell];rfl
 have hc1:w.cell? ⟨p,1,none⟩=some (.slice A0 n c0):=by rw [h1'.cell];rfl
 have H1:=Lib.hid h1';have H2:=Lib.hid h2;have HS:=Lib.hid hS;have HX:=Lib.hid hx;clear hx;have HL:=Lib.hid hl;clear hl;have HN':=Lib.hid hn';clear hn';clear h1 h1' h2 h3 hS hn;by_cases he:err=0
 ·subst he;by_cases hbig:16777216 < n+m
  ·have HR:=Lib.hid (show wPut (L,0) l=(L,3) by unfold wPut;rw [if_neg (by simp),if_pos (by rw [HN'.out,HL.out];exact hbig)]);rw [HR.out]
   go_enter Tryz.func123,Tryz.ntmps123
   go_wp2_with fail;refine (wthere_any S p _ w HH.out).mono ?_;rintro e w1 ⟨rfl,rfl⟩;go_wp2_with fail;refine (sound_ok p _ _ w H1.out).mono ?_;rintro e w1 ⟨rfl,rfl⟩;go_wp2_with fail;refine (spoil_new p _ 3 _ w H1.out).mono ?_;rintro e w1 ⟨rfl,hb,hk⟩;go_wp2_with fail;go_ret;exact ⟨rfl,wspoil (A:=A0) (c:=c0) (L:=L) (by rw [HN'.out];exact hb) H2.out (by rw [HN'.out];exact H1.out) (by rw [HN'.out];exact h3') HS.out hk⟩
  ·have HR:=Lib.hid (show wPut (L,0) l=(L ++ l,0) by unfold wPut;rw [if_neg (by simp),if_neg (by rw [HN'.out,HL.out];exact hbig)]);rw [HR.out];obtain ⟨i0,hi,hz0,hz1,hz2⟩:=info_parts Tryz.info_bool_;have hf1:=H1.out.free 1
   go_enter Tryz.func123,Tryz.ntmps123
   go_wp2_with fail;refine (wthere_any S p _ w HH.out).mono ?_;rintro e w1 ⟨rfl,rfl⟩;go_wp2_with fail;refine (sound_ok p _ _ w H1.out).mono ?_;rintro e w1 ⟨rfl,rfl⟩;go_wp2_with fail;refine (sound_ok p _ _ w H1.out).mono ?_;rintro e w1 ⟨rfl,rfl⟩;have HO:=Lib.hid (show w.ownsRow 0 4 1 (.slice A0 n c0) n (L.map .bool) by have h:=H2.out;rw [HN'.out] at h;exact h)
   go_wp2_with (at_builtin;go_loud (refine wpList_append_rd rfl (.tmp 38) (.tmp 39) 80 rfl 0 4 i0 (.bool false) 1 1 Tryz.underlying80 hi hz0 hz1 hz2 rfl (by decide) (.slice A0 n c0) n _ rfl HO.out B A m c (l.map .bool) rfl (by rw [List.length_map,HL.out,Nat.mul_one]) HX.out (by intro u hu;obtain ⟨b,_,rfl⟩:=List.mem_map.1 hu;rfl) (by unfold maxLen;omega) (by omega) (Nat.zero_le _) ?_);intro v2 w2 hown2 hgrow2 hat2
                go_loud (obtain ⟨A2,c2,rfl,_⟩:=own_form hown2)
                go_loud (have hkg:Kp (ownL (.slice A0 n c0)) w w2:=(Kp.refl _ w).grown hgrow2 (fun b hb=>.inl (mem_ownL.2 hb)))
                have HP2:=Lib.hid (H1.out.kp hkg (fun hm=>by obtain ⟨q,hq⟩:=own_blk_some HO.out (mem_ownL.1 hm);exact absurd rfl (hq.ne H1.out (by decide))));have HK2:=Lib.hid hkg;have HO2:=Lib.hid hown2;have HA2:=Lib.hid hat2;have cf2:=HP2.out.free 1;have cp2:w2.cell? ⟨p,1,none⟩=some (.slice A0 n c0):=by rw [HP2.out.cell];rfl
                have cp0:w2.cell? ⟨p,0,none⟩=some (.int .i64 0):=by rw [HP2.out.cell];rfl
                clear hown2 hgrow2 hat2 hkg)
   go_ret
   have hpA:∀ b,(Value.slice A2 (n+m) c2).ownBlock=some b→b ≠ p:=fun b hb e=>by
    subst e;obtain ⟨q,hq⟩:=own_blk_some HO2.out hb;exact absurd rfl (hq.ne HP2.out (by decide))
   have hk3:Kp [p] w2 (w2.setCell ⟨p,1,none⟩ (.slice A2 (n+m) c2)):=(Kp.refl [p] w2).setCell (.inl (by simp)) _;have hln:(L ++ l).length=n+m:=by rw [List.length_append,HN'.out,HL.out]
   have hS:S=p :: ownL (.slice A0 n c0):=by have h:=HS.out;rw [HN'.out] at h;exact h
   refine ⟨rfl,p :: ownL (.slice A2 (n+m) c2),⟨A2,c2,?_,?_,?_,?_⟩,?_,?_⟩
   ·rw [hln];exact HP2.out.set_ 1 _
   ·rw [hln,List.map_append];exact own_kp HO2.out hk3 (fun b hb hm=>by simp only [List.mem_singleton] at hm;exact hpA b hb hm)
   ·rw [hln];omega
   ·rw [hln]
   ·rw [hS];exact (HK2.out.mono (fun x hx=>by simp [hx])).trans (hk3.mono (fun x hx=>by simp only [List.mem_singleton] at hx;subst hx;simp))
   ·intro x hx;simp only [List.mem_cons] at hx
    rcases hx with rfl | hx
    ·exact .inl (by rw [hS];simp)
    ·rw [mem_ownL] at hx;rcases HA2.out with h | h
     ·exact .inl (by rw [hS];exact List.mem_cons_of_mem _ (mem_ownL.2 (by rw [← h];exact hx)))
     ·rw [h] at hx;injection hx with hx
      exact .inr (Nat.le_of_eq hx)
 ·have HR:=Lib.hid (show wPut (L,err) l=(L,err) by unfold wPut;rw [if_pos he]);rw [HR.out];have hb:(err == 0)=false:=by simpa using he
  have HE:=Lib.hid he;clear he
  go_enter Tryz.func123,Tryz.ntmps123
  go_wp2_with fail;refine (wthere_any S p _ w HH.out).mono ?_;rintro e w1 ⟨rfl,rfl⟩;go_wp2_with fail;refine (sound_no p _ err _ w H1.out HE.out).mono ?_;rintro e w1 ⟨rfl,rfl⟩;go_wp2_with fail;refine (sound_no p _ err _ w H1.out HE.out).mono ?_;rintro e w1 ⟨rfl,rfl⟩;go_wp2_with fail;go_ret;exact ⟨rfl,WPost.refl HH.out⟩

theorem i64_and1 (y:Nat) (h:y < 2 ^ 63):bits .and .i64 (y:Int) 1=((y % 2:Nat):Int):=by
 have:=(bits_nat .i64 63 (by decide) (fun n h0 h1=>by rw [IntKind.wrap_i64];omega) y 1 h (by decide)).1;rw [Nat.and_one_is_mod] at this;exact this
theorem shr_bit (x k:Nat) (hx:x≤9223372036854775807):(bits .and .i64 ((x:Int) / 2 ^ min k 64) 1 == 1)=(x / 2 ^ k % 2 == 1):=by
 have e:(x:Int) / 2 ^ min k 64=((x / 2 ^ k:Nat):Int):=by
  by_cases hk:k≤64
  ·rw [Nat.min_eq_left hk];simp
  ·rw [Nat.min_eq_right (by omega)];have h1:x / 2 ^ k=0:=Nat.div_eq_of_lt (Nat.lt_of_lt_of_le (show x < 2 ^ 64 by omega) (Nat.pow_le_pow_right (by omega) (by omega)));rw [h1];omega
 have hb:x / 2 ^ k < 2 ^ 63:=Nat.lt_of_le_of_lt (Nat.div_le_self _ _) (by omega);rw [e,i64_and1 _ hb];rcases (show x / 2 ^ k % 2=0 ∨ x / 2 ^ k % 2=1 by omega) with h | h <;> rw [h] <;> rfl
theorem fwidth_any (n:Nat) (w:World) (hn:n≤9223372036854775807):Calls Tryz.prog 119 #[.int .i64 (n:Int)] w fun e w'=>e=.returned (.int .i64 ((bl n:Nat):Int))∧w=w':=by
 obtain ⟨b,hb⟩:∃ b,b=bl n:=⟨_,rfl⟩;rw [← hb];have HB:=Lib.hid hb;clear hb
 go_enter Tryz.func119,Tryz.ntmps119
 go_wp2_with fail;have hl:=Tryz.bits_Len (n:Int) w (by omega) (by omega);rw [Int.toNat_natCast,show Lib.bitLen n=b from HB.out.symm] at hl;refine hl.mono ?_;clear hl;rintro e w1 ⟨rfl,rfl⟩;go_wp2_with fail;go_ret;exact ⟨rfl,rfl⟩
theorem app_facts {w w2:World} {o:Obj} {v v':Value} (hg:(w.alloc o).grownBy w2 v.ownBlock) (hat:v'.ownBlock=v.ownBlock ∨ v'.ownBlock=some (w.alloc o).heap.size):Kp (ownL v) w w2∧∀ x ∈ ownL v',x ∈ ownL v ∨ w.heap.size≤x:=by
 refine ⟨((Kp.refl _ w).alloc o).grown hg (fun b hb=>.inl (mem_ownL.2 hb)),fun x hx=>?_⟩;rw [mem_ownL] at hx;rcases hat with h | h
 ·exact .inl (mem_ownL.2 (by rw [← h];exact hx))
 ·rw [h] at hx;injection hx with hx
  rw [← hx];exact .inr (by simp)
theorem fdigits_any (base:Nat) (A:Option Addr) (c n m x:Nat) (l:List Bool) (w:World) (ho:w.ownsRow base 4 1 (.slice A n c) n (l.map .bool)) (hb:base≤w.heap.size) (hm:m≤200) (hn:n≤1000000000) (hx:x≤9223372036854775807) :
  Calls Tryz.prog 122 #[.slice A n c,.int .i64 (m:Int),.int .i64 (x:Int)] w fun e w'=>∃ A' c',e=.returned (.slice A' (n+m) c')∧w'.ownsRow base 4 1 (.slice A' (n+m) c') (n+m) ((l ++ digL m x).map .bool)∧Kp (ownL (.slice A n c)) w w'∧∀ b ∈ ownL (.slice A' (n+m) c'),b ∈ ownL (.slice A n c) ∨ w.heap.size≤b:=by
 obtain ⟨i0,hi,hz0,hz1,hz2⟩:=info_parts Tryz.info_bool_;have HO:=Lib.hid ho;clear ho;have HB:=Lib.hid hb;clear hb
 go_enter Tryz.func122,Tryz.ntmps122
 go_wp2_with fail
 go_loopw [0,7] (fun s y wr=>∃ (j r:Nat) (q:Int) (A':Option Addr) (c':Nat),y=.int .i64 q∧q+1=(r:Int)∧j+r=m∧s=.slice A' (n+j) c'∧Hid (wr.ownsRow base 4 1 (.slice A' (n+j) c') (n+j) ((l ++ (digL m x).take j).map .bool))∧Hid (Kp (ownL (.slice A n c)) w wr)∧Hid (∀ b ∈ ownL (.slice A' (n+j) c'),b ∈ ownL (.slice A n c) ∨ w.heap.size≤b)) (fun _ y _=>(intOf y+1).toNat)
 case atStart=>exact ⟨0,m,(m:Int) - 1,A,c,rfl,by omega,by omega,rfl,Lib.hid (by simpa using HO.out),Lib.hid (Kp.refl _ _),Lib.hid (fun b hb=>.inl hb)⟩
 case round =>
  obtain ⟨j,r,q,A',c',rfl,hq,hjr,rfl,HO1,HK,HA⟩:=hrel;by_cases hlt:0 < r
  ·obtain ⟨k,rfl⟩:∃ k:Nat,q=(k:Int):=⟨q.toNat,by omega⟩;obtain rfl:r=k+1:=by omega
   clear hq;have hd:=digL_get (m:=m) (x:=x) (j:=j) (by omega);rw [show m - 1 - j=k by omega] at hd;have HD:=Lib.hid hd;clear hd;have hjb:j+1≤200:=by omega
   have hkb:k≤200:=by omega
   have HJR:=Lib.hid hjr;clear hjr;obtain ⟨b,hb⟩:∃ b,b=(x / 2 ^ k % 2 == 1):=⟨_,rfl⟩;have hbt:(bits .and .i64 ((x:Int) / 2 ^ min k 64) 1 == 1)=b:=by rw [hb];exact shr_bit x k hx
   have HB2:=Lib.hid hb;clear hb;have HSZ:=Lib.hid (Nat.le_trans HB.out HK.out.size)
   go_wp2_with (at_builtin;go_loud (refine wpList_append_rd rfl (.tmp 14) (.tmp 20) 80 rfl base 4 i0 (.bool false) 1 1 Tryz.underlying80 hi hz0 hz1 hz2 rfl (by decide) (.slice A' (n+j) c') (n+j) _ rfl (own_kp0 HO1.out ((Kp.refl [] _).alloc _)) _ _ 1 1 [.bool b] rfl rfl (Rd.new wr #[.bool b] 4 (0,0)) (by intro u hu;simp at hu;subst hu;rfl) (by unfold maxLen;omega) (by omega) (by have:=HSZ.out;simp;omega) ?_);intro v2 w2 hown2 hgrow2 hat2
                go_loud (obtain ⟨hka,hga⟩:=app_facts hgrow2 hat2)
                go_loud (obtain ⟨A2,c2,rfl,_⟩:=own_form hown2)
                have HO2:=Lib.hid hown2;have HK2:=Lib.hid hka;have HA2:=Lib.hid hga
                clear hown2 hgrow2 hat2 hka hga)
   exact ⟨⟨j+1,k,(k:Int) - 1,A2,c2,rfl,by omega,by have:=HJR.out;omega,rfl,Lib.hid (by
    rw [take_succ_of HD.out,← HB2.out,← List.append_assoc,List.map_append]
    exact HO2.out),Lib.hid (HK.out.trans' HK2.out (fun x hx=>HA.out x hx)),Lib.hid (fun x hx=>by
     rcases HA2.out x hx with h | h
     ·exact HA.out x h
     ·exact .inr (Nat.le_trans HK.out.size h))⟩,by simp [intOf]⟩
  ·obtain rfl:r=0:=by omega
   obtain rfl:q=-1:=by omega
   obtain rfl:m=j:=by omega
   have HE:=Lib.hid (show (digL m x).take m=digL m x from List.take_of_length_le (by rw [digL_len];exact Nat.le_refl _));clear hq hjr;go_wp2_with fail;go_ret;exact ⟨A',c',rfl,by rw [← HE.out];exact HO1.out,HK.out,HA.out⟩
def eachR (ok:Int→Bool) (f:Int→List Bool) (s:WS) (l:List Int):WS:=if s.2 ≠ 0 then s else if l.all ok then wPut s (l.flatMap f) else (s.1,2)
theorem flat_len {f:Int→List Bool}:∀ {l:List Int},(∀ x ∈ l,(f x).length≤200)→(l.flatMap f).length≤200 * l.length
 | [],_=>Nat.le_refl _
 | x :: l,h=>by
   have ih:=flat_len (l:=l) (fun y hy=>h y (by simp [hy]));have hx:=h x (by simp);rw [List.flatMap_cons,List.length_append,List.length_cons];omega
theorem each_any (S:List Nat) (p n m c B g1 g2:Nat) (lb1 lb2:Array Value) (A:Option Addr) (ok:Int→Bool) (f:Int→List Bool) (l:List Int) (s:WS) (w:World) (h:WrM w S p s) (hn:s.1.length=n) (hx:Rd w B A (l.map (.int .i64))) (hl:l.length=m) (hm:m≤1000000)
  (eg1:∀ args w,(callFunc g1 args).run Tryz.prog w=.ok (.enter g1 args) w) (eg2:∀ args w,(callFunc g2 args).run Tryz.prog w=.ok (.enter g2 args) w)
  (hf:∀ x ∈ l,ok x=true→(f x).length≤200)
  (hmay:∀ w' x,Kp [] w w'→x ∈ l→Calls Tryz.prog g1 (#[.int .i64 x] ++ lb1) w' fun e w''=>e=.returned (.bool (ok x))∧Dr w' w'')
  (hof:∀ w' (A:Option Addr) (c n:Nat) (L:List Bool) x,Kp [] w w'→w'.ownsRow w.heap.size 4 1 (.slice A n c) n (L.map .bool)→n≤1000000000→x ∈ l→ok x=true →
   Calls Tryz.prog g2 (#[.slice A n c,.int .i64 x] ++ lb2) w' fun e w''=>∃ A' c' k,k=(f x).length∧e=.returned (.slice A' (n+k) c')∧w''.ownsRow w.heap.size 4 1 (.slice A' (n+k) c') (n+k) ((L ++ f x).map .bool)∧Kp [] w w'') :
  Calls Tryz.prog 120 #[.pointer (some ⟨p,0,none⟩),.func (.func g1) #[] lb1,.func (.func g2) #[] lb2,.slice A m c] w fun e w'=>e=.returned (.int .i64 (eachR ok f s l).2)∧WPost w w' S p (eachR ok f s l):=by
 obtain ⟨L,err⟩:=s;have HH:=Lib.hid h;obtain ⟨A0,c0,h1,h2,h3,hS⟩:=h;have hn':L.length=n:=hn;have h1':Blk w p 179 [.int .i64 err,.slice A0 n c0,.bool true]:=by rw [← hn'];exact h1
 have h3':n≤16777216:=by rw [← hn'];exact h3
 have hc0:w.cell? ⟨p,0,none⟩=some (.int .i64 err):=by rw [h1'.cell];rfl
 have H1:=Lib.hid h1';have H2:=Lib.hid h2;have HS:=Lib.hid hS;have HX:=Lib.hid hx;clear hx;have HL:=Lib.hid hl;clear hl;have HN':=Lib.hid hn';clear hn';have HF:=Lib.hid hf;clear hf;have HMAY:=Lib.hid hmay;clear hmay;have HOF:=Lib.hid hof;clear hof;clear h1 h1' h2 h3 hS hn;by_cases he:err=0
 ·subst he;clear hc0;obtain ⟨R,hR⟩:∃ R,R=eachR ok f (L,0) l:=⟨_,rfl⟩;rw [← hR];have HRR:=Lib.hid hR;clear hR
  go_enter Tryz.func120,Tryz.ntmps120
  go_wp2_with fail;refine (wthere_any S p _ w HH.out).mono ?_;rintro e w1 ⟨rfl,rfl⟩;go_wp2_with fail;refine (sound_ok p _ _ w H1.out).mono ?_;rintro e w1 ⟨rfl,rfl⟩;go_wp2_with fail
  go_loopw [9,27] (fun v y wr=>∃ (k j c1:Nat) (A1:Option Addr),y=.int .i64 (k:Int)∧v=.slice A1 j c1∧k≤m∧Hid (j=((l.take k).flatMap f).length)∧Hid ((l.take k).all ok=true)∧Hid (wr.ownsRow w.heap.size 4 1 (.slice A1 j c1) j (((l.take k).flatMap f).map .bool))∧Hid (Kp [] w wr)) (fun _ y _=>m - (intOf y).toNat)
  case atStart=>exact ⟨0,0,0,none,rfl,rfl,by omega,Lib.hid rfl,Lib.hid rfl,Lib.hid (World.ownsRow_nil _ _ _ 1),Lib.hid (Kp.refl _ _)⟩
  case round =>
   obtain ⟨k,j,c1,A1,rfl,rfl,hk,HJ,HOK,HO,HK⟩:=hrel
   have HJB:=Lib.hid (show j≤200000000 by
    have h:=flat_len (f:=f) (l:=l.take k) (fun x hx=>HF.out x (List.mem_of_mem_take hx) (List.all_eq_true.1 HOK.out x hx));rw [← HJ.out,List.length_take] at h
    omega)
   by_cases hlt:k < m
   ·obtain ⟨x,ad,hxk,rfl,_,hcx⟩:=(HX.out.kp0 HK.out).ix (i:=k) (by rw [HL.out];exact hlt);have hxm:=List.mem_of_getElem? hxk;have hmx:=HMAY.out wr x HK.out hxm;have HXK:=Lib.hid hxk;have HXM:=Lib.hid hxm
    cases hox:ok x with
    | false =>
      rw [hox] at hmx
      have HR:=Lib.hid (show eachR ok f (L,0) l=(L,2) by
       unfold eachR;rw [if_neg (by simp),if_neg];intro h;rw [List.all_eq_true.1 h x hxm] at hox
       cases hox)
      clear hxk hxm hox;go_wp2_with fail;refine hmx.mono ?_;rintro e w2 ⟨rfl,hd⟩;have HK2:=Lib.hid (HK.out.trans (hd.kp []));clear hmx hd;go_wp2_with fail;refine (spoil_new p _ 2 _ w2 (H1.out.kp0 HK2.out)).mono ?_;rintro e w3 ⟨rfl,hb,hk3⟩;go_wp2_with fail;go_ret;obtain ⟨S',q1,q2,q3⟩:=wspoil (A:=A0) (c:=c0) (L:=L) (w:=w2) (by rw [HN'.out];exact hb) (own_kp0 H2.out HK2.out) (by rw [HN'.out];exact H1.out.kp0 HK2.out) (by rw [HN'.out];exact h3') HS.out hk3;rw [show R=(L,2) from HRR.out.trans HR.out];exact ⟨rfl,S',q1,(HK2.out.mono (by simp)).trans q2,fun x hx=>(q3 x hx).imp id (fun h=>Nat.le_trans HK2.out.size h)⟩
    | true =>
      rw [hox] at hmx;have HOX:=Lib.hid hox;clear hxk hxm hox;go_wp2_with fail;refine hmx.mono ?_;rintro e w2 ⟨rfl,hd⟩;have HK2:=Lib.hid (HK.out.trans (hd.kp []));have HO2:=Lib.hid (own_kp0 HO.out (hd.kp []));clear hmx hd;go_wp2_with fail;refine (HOF.out w2 A1 c1 j _ x HK2.out HO2.out (by have:=HJB.out;omega) HXM.out HOX.out).mono ?_;rintro e w3 ⟨A',c',q,hq,rfl,hown,hk3⟩;have HQ:=Lib.hid hq;have HO3:=Lib.hid hown;have HK3:=Lib.hid hk3;clear hq hown hk3 hcx;go_wp2_with fail
      exact ⟨⟨k+1,j+q,c',A',by go_num,rfl,by omega,Lib.hid (by rw [take_succ_of HXK.out,List.flatMap_append,List.length_append,← HJ.out,HQ.out];simp),Lib.hid (by rw [take_succ_of HXK.out,List.all_append,HOK.out];simp [HOX.out]),
       Lib.hid (by rw [take_succ_of HXK.out,List.flatMap_append,List.flatMap_singleton];exact HO3.out),HK3⟩,by simp [intOf];omega⟩
   ·obtain rfl:m=k:=by omega
    have htk:l.take m=l:=List.take_of_length_le (by rw [HL.out];exact Nat.le_refl _);have ho2:=HO.out;have hok:=HOK.out;have hj:=HJ.out;rw [htk] at ho2 hok hj
    have HR:=Lib.hid (show eachR ok f (L,0) l=wPut (L,0) (l.flatMap f) by
     unfold eachR
     rw [if_neg (by simp),if_pos hok])
    have HJ2:=Lib.hid hj;have hjb:j≤1000000000:=by have:=HJB.out;omega
    have HO2:=Lib.hid ho2;clear ho2;clear hok hj htk HO HJ HOK;go_wp2_with fail;refine (wput_any S p n j c1 _ A1 (l.flatMap f) (L,0) wr (HH.out.kp0 HK.out) HN'.out (own_rd HO2.out) HJ2.out.symm hjb).mono ?_;rintro e w3 ⟨rfl,S',q1,q2,q3⟩;have HQ:=Lib.hid (show WPost w w3 S p (wPut (L,0) (l.flatMap f)) from ⟨S',q1,(HK.out.mono (by simp)).trans q2,fun x hx=>(q3 x hx).imp id (fun h=>Nat.le_trans HK.out.size h)⟩);clear q1 q2 q3;go_wp2_with fail;go_ret;rw [show R=wPut (L,0) (l.flatMap f) from HRR.out.trans HR.out];exact ⟨rfl,HQ.out⟩
 ·have HR:=Lib.hid (show eachR ok f (L,err) l=(L,err) by unfold eachR;rw [if_pos he]);rw [HR.out];have HE:=Lib.hid he;clear he
  go_enter Tryz.func120,Tryz.ntmps120
  go_wp2_with fail;refine (wthere_any S p _ w HH.out).mono ?_;rintro e w1 ⟨rfl,rfl⟩;go_wp2_with fail;refine (sound_no p _ err _ w H1.out HE.out).mono ?_;rintro e w1 ⟨rfl,rfl⟩;go_wp2_with fail;go_ret;exact ⟨rfl,WPost.refl HH.out⟩
theorem Kp.own {w0 w w':World} {e:TypeId} {n:Nat} {v:Value} {xs:List Value} (h:w.ownsRow w0.heap.size e 1 v n xs) (hk:Kp (ownL v) w w') (h0:Kp [] w0 w):Kp [] w0 w':=h0.trans' hk (fun _ hx=>.inr (own_ge h (mem_ownL.1 hx)).1)
theorem fgam1_any (x:Int) (w:World) (hx:x≤9223372036854775807) :
  Calls Tryz.prog 118 #[.int .i64 x] w fun e w'=>e=.returned (.bool (okG x))∧w=w':=by
 by_cases h0:0 < x
 ·obtain ⟨n,rfl⟩:∃ n:Nat,x=(n:Int):=⟨x.toNat,by omega⟩;obtain ⟨q,hq⟩:∃ q,q=bl n:=⟨_,rfl⟩
  have hz:okG (n:Int)=decide ((q:Int)≤60):=by
   unfold okG;rw [decide_eq_true h0,Bool.true_and,Int.toNat_natCast,hq]
  rw [hz];have HQ:=Lib.hid hq;clear hz hq
  go_enter Tryz.func118,Tryz.ntmps118
  go_wp2_with fail;refine (fwidth_any n w (by omega)).mono ?_;rw [← HQ.out];rintro e w1 ⟨rfl,rfl⟩;go_wp2_with fail;go_ret;exact ⟨rfl,rfl⟩
 ·have hz:okG x=false:=by unfold okG;rw [decide_eq_false h0,Bool.false_and]
  rw [hz];clear hz;have hd:decide (0 < x)=false:=decide_eq_false h0
  go_enter Tryz.func118,Tryz.ntmps118
  go_wp2_with fail;go_ret;exact ⟨rfl,rfl⟩
theorem okG_nat {x:Int} (h:okG x=true):∃ n:Nat,x=(n:Int)∧n ≠ 0∧bl n≤60:=by
 unfold okG at h;rw [Bool.and_eq_true,decide_eq_true_iff,decide_eq_true_iff] at h;exact ⟨x.toNat,by omega,by omega,by omega⟩
theorem fgam2_any (base:Nat) (A:Option Addr) (c n:Nat) (L:List Bool) (x:Int) (w:World) (ho:w.ownsRow base 4 1 (.slice A n c) n (L.map .bool)) (hw:base≤w.heap.size) (hn:n≤1000000000) (h0:okG x=true) (hx:x≤9223372036854775807) :
  Calls Tryz.prog 121 #[.slice A n c,.int .i64 x] w fun e w'=>∃ A' c' k,k=(gamL x.toNat).length∧e=.returned (.slice A' (n+k) c')∧w'.ownsRow base 4 1 (.slice A' (n+k) c') (n+k) ((L ++ gamL x.toNat).map .bool)∧Kp (ownL (.slice A n c)) w w':=by
 obtain ⟨z,rfl,hz0,hzb⟩:=okG_nat h0;rw [Int.toNat_natCast];have hz64:z < 2 ^ 64:=by omega
 obtain ⟨q,hq⟩:∃ q,q=bl z:=⟨_,rfl⟩;have hs:=(bl_spec hz64 hz0).1;have HG:=Lib.hid (gamL_eq hz64 hz0);have HGL:=Lib.hid (gamL_len hz64 hz0);rw [← hq] at hzb hs HG HGL;obtain ⟨k,hk⟩:∃ k,k=2 * q - 1:=⟨_,rfl⟩;rw [← hk] at HG HGL;have hk1:k+1=2 * q:=by omega
 have HQ:=Lib.hid hq;have HK1:=Lib.hid hk1;have hw2:IntKind.i64.wrap (2 * (q:Int))=(k:Int)+1:=by rw [IntKind.wrap_i64];omega
 have hkb:k≤119:=by omega
 have HO:=Lib.hid ho;clear ho;have HW:=Lib.hid hw;clear hw;clear h0 hq hk hk1
 go_enter Tryz.func121,Tryz.ntmps121
 go_wp2_with fail;refine (fwidth_any z w (by omega)).mono ?_;rw [← HQ.out];rintro e w1 ⟨rfl,rfl⟩;go_wp2_with fail;refine (fdigits_any base A c n k z L w HO.out HW.out (by omega) hn (by omega)).mono ?_;rintro e w1 ⟨A',c',rfl,hown,hk,_⟩;have HO1:=Lib.hid hown;have HK:=Lib.hid hk;clear hown hk;go_wp2_with fail;go_ret;exact ⟨A',c',k,HGL.out.symm,rfl,by rw [HG.out];exact HO1.out,HK.out⟩
theorem wgamma_any (S:List Nat) (p n m c B:Nat) (A:Option Addr) (l:List Int) (s:WS) (w:World) (h:WrM w S p s) (hn:s.1.length=n) (hx:Rd w B A (l.map (.int .i64))) (hl:l.length=m) (hm:m≤1000000) (hs:∀ x ∈ l,x≤9223372036854775807) :
  Calls Tryz.prog 67 #[.pointer (some ⟨p,0,none⟩),.slice A m c] w fun e w'=>e=.returned (.int .i64 (wGam s l).2)∧WPost w w' S p (wGam s l):=by
 have HE:=Lib.hid (each_any S p n m c B 118 121 #[] #[] A okG (fun x=>gamL x.toNat) l s w h hn hx hl hm
  (enters_fn Tryz.func118 (by kernel_rfl) rfl) (enters_fn Tryz.func121 (by kernel_rfl) rfl)
  (fun x _ hok=>by
   obtain ⟨z,rfl,hz0,hzb⟩:=okG_nat hok;unfold gamL;rw [List.length_append,List.length_replicate,digL_len,Int.toNat_natCast]
   omega)
  (fun w' x _ hx=>(fgam1_any x w' (hs x hx)).mono fun e w'' ⟨h1,h2⟩=>⟨h1,by subst h2;exact Dr.refl _⟩)
  (fun w' A c n L x hk ho hn hx hok=>(fgam2_any w.heap.size A c n L x w' ho hk.size hn hok (hs x hx)).mono fun e w'' ⟨A',c',k,h0,h1,h2,h3⟩=>⟨A',c',k,h0,h1,h2,Kp.own ho h3 hk⟩))
 obtain ⟨R,hR⟩:∃ R,R=wGam s l:=⟨_,rfl⟩;rw [← hR];have HR:=Lib.hid (show eachR okG (fun x=>gamL x.toNat) s l=R from hR.symm);clear hR h hn hx hl hs
 go_enter Tryz.func67,Tryz.ntmps67
 go_wp2_with fail;refine HE.out.mono ?_;rw [HR.out];rintro e w1 ⟨rfl,hp⟩;have HP:=Lib.hid hp;clear hp;go_wp2_with fail;go_ret;exact ⟨rfl,HP.out⟩
theorem wvec_ok (S:List Nat) (p:Nat) (L:List Bool) (w:World) (h:WrM w S p (L,0)):Calls Tryz.prog 69 #[.pointer (some ⟨p,0,none⟩)] w fun e w'=>∃ T q,e=.returned (.tuple #[.pointer (some ⟨q,0,none⟩),.int .i64 0])∧VecM w' T q L false∧(∀ x ∈ T,w.heap.size≤x)∧Kp [] w w':=by
 have HH:=Lib.hid h;obtain ⟨A0,c0,h1,h2,h3,_⟩:=h;obtain ⟨n,hn⟩:∃ n,n=L.length:=⟨_,rfl⟩;have h1':Blk w p 179 [.int .i64 0,.slice A0 n c0,.bool true]:=by rw [hn];exact h1
 have h3':n≤16777216:=by rw [hn];exact h3
 have H1:=Lib.hid h1';have hc1:w.cell? ⟨p,1,none⟩=some (.slice A0 n c0):=by rw [h1'.cell];rfl
 have HRD:=Lib.hid (show Rd w w.heap.size A0 (L.map .bool) from own_rd h2);have HN:=Lib.hid hn;clear h1 h1' h2 h3 hn
 go_enter Tryz.func69,Tryz.ntmps69
 go_wp2_with fail;refine (wthere_any S p _ w HH.out).mono ?_;rintro e w1 ⟨rfl,rfl⟩;go_wp2_with fail;refine (sound_ok p _ _ w H1.out).mono ?_;rintro e w1 ⟨rfl,rfl⟩;go_wp2_with fail;refine (bof_any A0 n c0 _ L w HRD.out HN.out.symm h3').mono ?_;rintro e w1 ⟨T,q,rfl,hv,hT,hk⟩;have HV:=Lib.hid hv;have HT:=Lib.hid hT;have HK:=Lib.hid hk;clear hv hT hk;go_wp2_with fail;go_ret2;exact ⟨T,q,rfl,HV.out,HT.out,HK.out⟩
end Go.Proofs.YtanacapkfllbnaaGreatDoor
