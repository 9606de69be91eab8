/-
  LAYER 1's REFERENCE: Of, Set; the statement's size.
  CONDITIONS: as each says.
-/
import Derived.Test.YtanacapkfllbnaaGreatDoorR19
import Derived.Test.YtanacapkfllbnaaGreatDoorR20
import Derived.Test.YtanacapkfllbnaaGreatDoorR27
set_option maxRecDepth 100000
set_option maxHeartbeats 4000000
namespace Go.Proofs.YtanacapkfllbnaaGreatDoor
open Go.RowKit

theorem ownBlock_some {g n c k:Nat} (h:(Value.slice (some ⟨g,0,none⟩) n c).ownBlock=some k):g=k:=by
 have h':some g=some k:=h;injection h'
theorem rbof_any (A:Option Addr) (n c B:Nat) (bs:List Bool) (w:World) (hx:Rd w B A (bs.map .bool)) (hn:bs.length=n) (h:n≤16777216):Calls Tryz.prog 44 #[.slice A n c] w fun e w' =>
  ∃ S p,e=.returned (.tuple #[.pointer (some ⟨p,0,none⟩),.int .i64 0])∧RefV w' S p bs∧(∀ x ∈ S,w.heap.size≤x)∧Kp [] w w':=by
 obtain ⟨i0,hi,hz0,hz1,hz2⟩:=info_parts Tryz.info_bool_;have HX:=Lib.hid hx;clear hx;have HN:=Lib.hid hn;clear hn
 go_enter Tryz.func44,Tryz.ntmps44
 go_wp2_with fail;refine (rbnew_raw n w h).mono ?_;rintro e w1 ⟨g,p,rfl,hg,hp,hgp,hbg,hbp,hk⟩;have HK:=Lib.hid hk;replace HX:=Lib.hid (HX.out.kp0 hk);clear hk;have HP:=Lib.hid hp;have cf:=hbp.free 0;have HBP:=Lib.hid hbp;clear hp hg hgp hbg hbp;have HW:=Lib.hid (show w.heap.size≤w1.heap.size from HK.out.size)
 have hown:(w1.alloc (.cells #[] 4)).ownsRow w.heap.size 4 1 (.slice (some ⟨w1.heap.size,0,none⟩) 0 0) 0 []:=
  own_of_blk (xs:=[]) (rest:=[]) (Blk.new w1 4 []) HW.out (Nat.le_refl _) (Nat.zero_le _) rfl rfl
 have HO:=Lib.hid hown;clear hown
 go_wp2_with (at_builtin;go_loud (refine wpList_append_rd rfl (.tmp 16) (.tmp 17) 80 rfl w.heap.size 4 i0 (.bool false) 1 1 Tryz.underlying80 hi hz0 hz1 hz2 rfl (by decide) (.slice (some ⟨w1.heap.size,0,none⟩) 0 0) 0 [] rfl HO.out B A n c (bs.map .bool) rfl (by rw [List.length_map,HN.out,Nat.mul_one]) (HX.out.kp0 ((Kp.refl [] _).alloc _)) (by intro u hu;obtain ⟨b,_,rfl⟩:=List.mem_map.1 hu;rfl) (by unfold maxLen;omega) (by omega) (by have:=HW.out;simp;omega) ?_);intro v2 w2 hown2 hgrow2 hat2
              go_loud (obtain ⟨A2,c2,rfl,_⟩:=own_form hown2)
              go_loud (rw [Nat.zero_add] at hown2)
              go_loud (have hk2:Kp [] w1 w2:=((Kp.refl [] w1).alloc (.cells #[] 4)).grown hgrow2 (fun k hk=>.inr (Nat.le_of_eq (ownBlock_some hk))))
              have HB2:=Lib.hid (HBP.out.kp0 hk2);have cf2:=HB2.out.free 0;have cp2:w2.cell? ⟨p,0,none⟩=some (.slice (some ⟨g,0,none⟩) n n):=by rw [HB2.out.cell];rfl
              have HO2:=Lib.hid hown2;have HK2:=Lib.hid (HK.out.trans hk2)
              clear hown2 hgrow2 hat2 hk2)
 go_ret2;have ho:=HO2.out;rw [List.nil_append] at ho
 have hpA:∀ b,(Value.slice A2 n c2).ownBlock=some b→b ≠ p:=fun b hb e=>by
  subst e;obtain ⟨l,hl⟩:=own_blk_some ho hb;exact absurd rfl (hl.ne HB2.out (by decide))
 have hk3:Kp [p] w2 (w2.setCell ⟨p,0,none⟩ (.slice A2 n c2)):=(Kp.refl [p] w2).setCell (.inl (by simp)) _;refine ⟨p :: ownL (.slice A2 n c2),p,rfl,⟨A2,c2,?_,?_,?_⟩,?_,?_⟩
 ·rw [HN.out];exact HB2.out.set_ 0 _
 ·rw [HN.out];exact own_base (own_kp ho hk3 (fun b hb hm=>by simp only [List.mem_singleton] at hm;exact hpA b hb hm)) (Nat.zero_le _)
 ·rw [HN.out]
 ·intro x hx;simp only [List.mem_cons] at hx
  rcases hx with rfl | hx
  ·exact HP.out
  ·exact (own_ge ho (mem_ownL.1 hx)).1
 ·exact HK2.out.trans' hk3 (fun z hz=>by simp only [List.mem_singleton] at hz;subst hz;exact .inr HP.out)
theorem RefV.put {w:World} {S:List Nat} {p:Nat} {bs:List Bool} (h:RefV w S p bs) {k:Nat} (hk:k < bs.length):∃ g c,g ∈ S∧w.cell? ⟨p,0,none⟩=some (.slice (some ⟨g,0,none⟩) bs.length c)∧(∃ b,w.cell? ⟨g,k,none⟩=some (.bool b))∧w.frozen? ⟨g,k,none⟩=false∧∀ v,RefV (w.setCell ⟨g,k,none⟩ (.bool v)) S p (bs.set k v):=by
 obtain ⟨A,c,h1,h2,hS⟩:=h;rcases own_blk h2 with ⟨hv,hn,_⟩ | ⟨g,cap,rest,hv,hb,hB,hn,hm,hx,hc⟩
 ·omega
 ·injection hv with hv _ hcc
  subst hv hcc;have hpg:p ≠ g:=h1.ne hB (by decide);refine ⟨g,c,by rw [hS];simp [ownL_some],by rw [h1.cell];rfl,?_,hB.free k,fun v=>⟨some ⟨g,0,none⟩,c,?_,?_,by rw [hS,List.length_set]⟩⟩
  ·obtain ⟨b,hb⟩:∃ b,bs[k]? = some b:=⟨_,List.getElem?_eq_getElem hk⟩;exact ⟨b,by rw [hB.cell,List.getElem?_append_left (by simpa using hk)];simp [hb]⟩
  ·rw [List.length_set];exact h1.far (p:=⟨g,k,none⟩) hpg _
  ·have h3:=hB.set_ k (.bool v);rw [List.set_append_left _ _ (by simpa using hk)] at h3;refine own_of_blk (xs:=(bs.set k v).map .bool) (rest:=rest) (by rw [List.map_set];exact h3) (Nat.zero_le _) (by rw [List.length_set];exact hn) hm (by simp) ?_
   simp at hc ⊢
   exact hc
end Go.Proofs.YtanacapkfllbnaaGreatDoor
