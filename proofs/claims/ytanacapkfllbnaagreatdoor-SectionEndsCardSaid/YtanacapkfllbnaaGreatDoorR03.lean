/-
  LAYER 3, plain: a number's digits, its gamma; what is put; what is read; that it is read back.
  CONDITIONS: as each says.
-/
import Derived.Test.YtanacapkfllbnaaGreatDoorR00
import Derived.Lib.ItoaNum
set_option maxRecDepth 100000
set_option maxHeartbeats 4000000
namespace Go.Proofs.YtanacapkfllbnaaGreatDoor

def digL:Nat→Nat→List Bool
 | 0,_=>[]
 | m+1,x=>(x / 2 ^ m % 2 == 1) :: digL m x
theorem digL_len:∀ (m x:Nat),(digL m x).length=m
 | 0,_=>rfl
 | m+1,x=>by simp [digL,digL_len m]
theorem digL_get:∀ {m x j:Nat},j < m→(digL m x)[j]? = some (x / 2 ^ (m - 1 - j) % 2 == 1)
 | m+1,x,0,_=>by simp [digL]
 | m+1,x,j+1,h=>by
   have:=digL_get (m:=m) (x:=x) (j:=j) (by omega);rw [show m+1 - 1 - (j+1)=m - 1 - j by omega];simpa [digL] using this
theorem digL_snoc:∀ (m x:Nat),digL (m+1) x=digL m (x / 2) ++ [x % 2 == 1]
 | 0,x=>by simp [digL]
 | m+1,x=>by
   rw [show digL (m+2) x=(x / 2 ^ (m+1) % 2 == 1) :: digL (m+1) x from rfl,digL_snoc m x];rw [show digL (m+1) (x / 2)=(x / 2 / 2 ^ m % 2 == 1) :: digL m (x / 2) from rfl,Nat.div_div_eq_div_mul,show 2 * 2 ^ m=2 ^ (m+1) by rw [Nat.pow_succ,Nat.mul_comm]];rfl
def valF (a:Nat) (l:List Bool):Nat:=l.foldl (fun a b=>2 * a+b.toNat) a
def valL (l:List Bool):Nat:=valF 0 l
theorem valF_snoc (a:Nat) (l:List Bool) (b:Bool):valF a (l ++ [b])=2 * valF a l+b.toNat:=by simp [valF]
theorem valL_snoc (l:List Bool) (b:Bool):valL (l ++ [b])=2 * valL l+b.toNat:=valF_snoc 0 l b
theorem bit_toNat (x:Nat):(x % 2 == 1).toNat=x % 2:=by
 rcases (show x % 2=0 ∨ x % 2=1 by omega) with h | h <;> rw [h] <;> rfl
theorem valL_digL:∀ (m x:Nat),valL (digL m x)=x % 2 ^ m
 | 0,x=>by simp [digL,valL,valF,Nat.mod_one]
 | m+1,x=>by
   rw [digL_snoc,valL_snoc,valL_digL m,bit_toNat,Nat.pow_succ,Nat.mul_comm (2 ^ m) 2,Nat.mod_mul];omega
theorem valL_lt:∀ (l:List Bool),valL l < 2 ^ l.length:=by
 intro l
 have:∀ (l:List Bool) (a k:Nat),a < 2 ^ k→valF a l < 2 ^ (k+l.length):=by
  intro l
  induction l with
  | nil=>intro a k h;exact h
  | cons b l ih =>
    intro a k h;have:=ih (2 * a+b.toNat) (k+1) (by rw [Nat.pow_succ];cases b <;> simp <;> omega);rw [show k+(b :: l).length=k+1+l.length by simp;omega];exact this
 have h:=this l 0 0 (by simp)
 rwa [Nat.zero_add] at h
theorem digL_hi:∀ {m k x:Nat},x < 2 ^ m→digL (k+m) x=List.replicate k false ++ digL m x
 | m,0,x,_=>by simp
 | m,k+1,x,h=>by
   rw [show k+1+m=(k+m)+1 by omega];have h0:x / 2 ^ (k+m)=0:=Nat.div_eq_of_lt (Nat.lt_of_lt_of_le h (Nat.pow_le_pow_right (by omega) (by omega)))
   show (x / 2 ^ (k+m) % 2 == 1) :: digL (k+m) x=_
   rw [h0,digL_hi h];rfl
def bl (x:Nat):Nat:=Lib.bitLen x
theorem bl_spec {x:Nat} (h:x < 2 ^ 64) (h0:x ≠ 0):1≤bl x∧2 ^ (bl x - 1)≤x∧x < 2 ^ bl x:=Lib.bitLenAux_bounds 64 x h h0
theorem bl_lt {x:Nat} (h:x < 2 ^ 64):x < 2 ^ bl x:=by
 by_cases h0:x=0
 ·subst h0;exact Nat.two_pow_pos _
 ·exact (bl_spec h h0).2.2
theorem bl_le_iff {x k:Nat} (h:x < 2 ^ 64) (hk:k≤64):bl x≤k ↔ x < 2 ^ k:=by
 refine ⟨fun hb=>Nat.lt_of_lt_of_le (bl_lt h) (Nat.pow_le_pow_right (by omega) hb),fun hx=>Lib.bitLen_le x k hk hx⟩
def gamL (x:Nat):List Bool:=List.replicate (bl x - 1) false ++ digL (bl x) x
theorem gamL_eq {x:Nat} (h:x < 2 ^ 64) (h0:x ≠ 0):gamL x=digL (2 * bl x - 1) x:=by
 have hs:=bl_spec h h0;unfold gamL;rw [← digL_hi hs.2.2,show bl x - 1+bl x=2 * bl x - 1 by omega]
theorem gamL_len {x:Nat} (h:x < 2 ^ 64) (h0:x ≠ 0):(gamL x).length=2 * bl x - 1:=by rw [gamL_eq h h0,digL_len]
theorem digL_top {x:Nat} (h:x < 2 ^ 64) (h0:x ≠ 0):digL (bl x) x=true :: digL (bl x - 1) x:=by
 obtain ⟨h1,h2,h3⟩:=bl_spec h h0;obtain ⟨k,hk⟩:∃ k,bl x=k+1:=⟨bl x - 1,by omega⟩;rw [hk] at h2 h3 ⊢
 show (x / 2 ^ k % 2 == 1) :: digL k x=_
 rw [Nat.add_sub_cancel] at h2 ⊢
 have:x / 2 ^ k=1:=by
  rw [Nat.div_eq_iff (Nat.two_pow_pos _)];rw [Nat.pow_succ] at h3;omega
 rw [this];rfl

abbrev WS:=List Bool × Int
def wPut (s:WS) (l:List Bool):WS:=if s.2 ≠ 0 then s else if 16777216 < s.1.length+l.length then (s.1,3) else (s.1 ++ l,0)
def okG (x:Int):Bool:=decide (0 < x) && decide ((bl x.toNat:Int)≤60)
def gamsL (l:List Int):List Bool:=l.flatMap fun x=>gamL x.toNat
def wGam (s:WS) (l:List Int):WS:=if s.2 ≠ 0 then s else if l.all okG then wPut s (gamsL l) else (s.1,2)
theorem gamsL_snoc (l:List Int) (x:Int):gamsL (l ++ [x])=gamsL l ++ gamL x.toNat:=by simp [gamsL]
theorem gamsL_len_le:∀ l:List Int,(∀ x ∈ l,okG x=true)→(gamsL l).length≤119 * l.length
 | [],_=>Nat.le_refl _
 | x :: l,h=>by
   have ih:=gamsL_len_le l (fun y hy=>h y (by simp [hy]));have hx:=h x (by simp);unfold okG at hx;rw [Bool.and_eq_true,decide_eq_true_iff,decide_eq_true_iff] at hx
   show (gamL x.toNat ++ gamsL l).length≤_
   rw [List.length_append,List.length_cons]
   have:(gamL x.toNat).length≤119:=by
    unfold gamL;rw [List.length_append,List.length_replicate,digL_len];omega
   omega

def rNum (L:List Bool) (at_:Nat) (bad:Bool) (m:Int):Nat × Nat × Bool:=
 if bad ∨ m < 0 ∨ 60 < m ∨ (L.length:Int) - (at_:Int) < m then (0,at_,true) else (valL ((L.drop at_).take m.toNat),at_+m.toNat,false)
def zer:List Bool→Nat
 | false :: l=>zer l+1
 | _=>0
def rGam (L:List Bool) (at_:Nat) (bad:Bool):Nat × Nat × Bool:=
 if bad then (0,at_,true) else if 60≤zer (L.drop at_) ∨ L.length - at_ < 2 * zer (L.drop at_)+1 then (0,at_,true)
 else (valL ((L.drop (at_+zer (L.drop at_))).take (zer (L.drop at_)+1)),at_+zer (L.drop at_)+(zer (L.drop at_)+1),false)
theorem zer_le:∀ l:List Bool,zer l≤l.length
 | []=>Nat.le_refl _
 | true :: l=>Nat.zero_le _
 | false :: l=>by show zer l+1≤l.length+1;have:=zer_le l;omega
theorem zer_app:∀ (k:Nat) (l:List Bool),zer (List.replicate k false ++ true :: l)=k
 | 0,l=>rfl
 | k+1,l=>by
   show zer (List.replicate k false ++ true :: l)+1=_
   rw [zer_app k l]
theorem zer_get:∀ {l:List Bool} {i:Nat},i < zer l→l[i]? = some false
 | false :: l,0,_=>rfl
 | false :: l,i+1,h=>by
   have:=zer_get (l:=l) (i:=i) (by have:zer (false :: l)=zer l+1:=rfl;omega);simpa using this
 | true :: l,i,h=>by have:zer (true :: l)=0:=rfl;omega
 | [],i,h=>by have:zer []=0:=rfl;omega
theorem zer_at:∀ {l:List Bool},zer l < l.length→l[zer l]? = some true
 | false :: l,h=>by
   have e:zer (false :: l)=zer l+1:=rfl;rw [e] at h ⊢;have:=zer_at (l:=l) (by simpa using h);simpa using this
 | true :: l,_=>rfl
 | [],h=>by simp at h
theorem rGam_le {L:List Bool} {a:Nat} {bad:Bool} (h:a≤L.length):(rGam L a bad).2.1≤L.length:=by
 unfold rGam
 split
 ·exact h
 ·split
  ·exact h
  ·show a+zer (L.drop a)+(zer (L.drop a)+1)≤_;omega
theorem rGam_back {L:List Bool} {a x:Nat} {r:List Bool} (h:L.drop a=gamL x ++ r) (hx:x < 2 ^ 60) (h0:x ≠ 0):rGam L a false=(x,a+(gamL x).length,false):=by
 have h64:x < 2 ^ 64:=Nat.lt_of_lt_of_le hx (by decide);have hb:bl x≤60:=(bl_le_iff h64 (by omega)).2 hx;have hs:=bl_spec h64 h0
 have hl:L.length - a=2 * bl x - 1+r.length:=by
  have:=congrArg List.length h
  rwa [List.length_drop,List.length_append,gamL_len h64 h0] at this
 have hz:zer (L.drop a)=bl x - 1:=by
  rw [h];unfold gamL;rw [digL_top h64 h0,List.append_assoc,List.cons_append,zer_app]
 unfold rGam;rw [hz,if_neg (by simp),if_neg (by omega),← List.drop_drop,h,gamL_len h64 h0]
 have hd:(gamL x ++ r).drop (bl x - 1)=digL (bl x) x ++ r:=by
  unfold gamL;rw [List.append_assoc,List.drop_left' (by simp)]
 rw [hd,show bl x - 1+1=bl x by omega,List.take_append_of_le_length (by rw [digL_len];omega),List.take_of_length_le (by rw [digL_len];omega),valL_digL,Nat.mod_eq_of_lt hs.2.2,show a+(bl x - 1)+bl x=a+(2 * bl x - 1) by omega]
end Go.Proofs.YtanacapkfllbnaaGreatDoor
