/-
  The document's layer 12: a front in memory, Alike, Text, Find.
  The document's layer 12: Of.
  LAYER 12 (front): Text at any place.
  LAYER 12's law: is a front the document's: the walk of same.
  CONDITIONS: as each lemma says.
-/
import Derived.Test.YtlaionhlejmjdaaGreatDoorQ40
import Derived.Test.YtlaionhlejmjdaaGreatDoorQ41
import Derived.Test.YtlaionhlejmjdaaGreatDoorQ27
import Derived.Test.YtlaionhlejmjdaaGreatDoorQ38
import Derived.Test.YtlaionhlejmjdaaGreatDoorQ07
import Derived.Test.YtlaionhlejmjdaaGreatDoorQ19
namespace Go.Proofs.YtlaionhlejmjdaaGreatDoor
open Go.RowKit

/-- The document's front in memory. -/
structure RfM (w : World) (lo hi f : Nat) (T : CT) (ss : List ByteArray) (At Ab As : Option Addr) (ct cb cs n N m : Nat) : Prop where
  blk : Blk w f 53 [.slice At n ct, .slice Ab N cb, .slice As m cs]
  rt : Rd w hi At (ss.map .string)
  rb : Rd w hi Ab ((frontB T ss).map .bool)
  rs : Rd w hi As (natV (startsN T ss))
  bf : lo ≤ f ∧ f < hi
  bt : ∀ ad, At = some ad → lo ≤ ad.block
  bb : ∀ ad, Ab = some ad → lo ≤ ad.block
  bs : ∀ ad, As = some ad → lo ≤ ad.block
  nt : ss.length = n
  nb : (frontB T ss).length = N
  ns : (startsN T ss).length = m
  hcb : N ≤ cb
  ob : w.ownsRow 0 4 1 (.slice Ab N cb) N ((frontB T ss).map .bool)
  og : ∀ g, (Value.slice Ab N cb).ownBlock = some g → lo ≤ g ∧ g < hi
section
variable {w w' : World} {lo hi f ct cb cs n N m : Nat} {T : CT} {ss : List ByteArray} {At Ab As : Option Addr}
theorem Rd.apart {w w' : World} {S : List Nat} {lo hi : Nat} {A : Option Addr} {xs : List Value} (h : Rd w hi A xs) (hk : Kp S w w') (hA : ∀ ad, A = some ad → lo ≤ ad.block) (hS : ∀ g ∈ S, g < lo ∨ hi ≤ g) : Rd w' hi A xs := by
  intro i u hu
  obtain ⟨ad, e, hb, hc⟩ := h i u hu
  exact ⟨ad, e, hb, hk.cell hc (fun hm => by
    rw [addr_add_block] at hm
    have := hA ad e
    rcases hS _ hm with h | h <;> omega)⟩
theorem RfM.kp {S : List Nat} (h : RfM w lo hi f T ss At Ab As ct cb cs n N m) (hk : Kp S w w') (hS : ∀ g ∈ S, g < lo ∨ hi ≤ g) : RfM w' lo hi f T ss At Ab As ct cb cs n N m :=
  ⟨h.blk.kp hk (fun hm => by have := h.bf; rcases hS f hm with h | h <;> omega), h.rt.apart hk h.bt hS, h.rb.apart hk h.bb hS, h.rs.apart hk h.bs hS, h.bf, h.bt, h.bb, h.bs, h.nt, h.nb, h.ns, h.hcb, own_kp h.ob hk (fun g hg hm => by have := h.og g hg; rcases hS g hm with h | h <;> omega), h.og⟩
theorem RfM.kp0 (h : RfM w lo hi f T ss At Ab As ct cb cs n N m) (hk : Kp [] w w') : RfM w' lo hi f T ss At Ab As ct cb cs n N m := h.kp hk (by simp)
theorem RfM.cells (h : RfM w lo hi f T ss At Ab As ct cb cs n N m) : w.cell? ⟨f, 0, none⟩ = some (.slice At n ct) ∧ w.cell? ⟨f, 1, none⟩ = some (.slice Ab N cb) ∧ w.cell? ⟨f, 2, none⟩ = some (.slice As m cs) :=
  ⟨by rw [h.blk.cell]; rfl, by rw [h.blk.cell]; rfl, by rw [h.blk.cell]; rfl⟩
end
set_option maxRecDepth 100000 in
set_option maxHeartbeats 4000000 in
theorem ralike_any (s t : ByteArray) (w : World) (hs : s.size ≤ 1000000000) (_ht : t.size ≤ 1000000000) :
    Calls Tryz.prog 15 #[.string s, .string t] w fun e w' => e = .returned (.int .i64 ((alikeN (txt s) (txt t) : Nat) : Int)) ∧ Dr w w' := by
  go_enter Tryz.func15, Tryz.ntmps15
  go_wp2_with fail
  go_loopw [5] (fun i wr => ∃ k : Nat, i = .int .i64 (k : Int) ∧ k ≤ s.size ∧ Hid (alikeN (txt s) (txt t) = alikeN ((txt s).drop k) ((txt t).drop k) + k) ∧ Dr w wr) (fun i _ => s.size - (intOf i).toNat)
  case atStart => exact ⟨0, rfl, by omega, Lib.hid rfl, Dr.refl w⟩
  case round =>
    obtain ⟨k, rfl, hk, HE, hd⟩ := hrel
    have hk0 : (0 : Int) ≤ (k : Int) := by omega
    by_cases hks : k < s.size
    · have hk1 : (k : Int) < (s.size : Int) := by omega
      by_cases hkt : k < t.size
      · have hk2 : (k : Int) < (t.size : Int) := by omega
        have HX := Lib.hid (txt_get s k hks)
        have HY := Lib.hid (txt_get t k hkt)
        obtain ⟨x, hx⟩ : ∃ x, s[k].toNat = x := ⟨_, rfl⟩
        obtain ⟨y, hy⟩ : ∃ y, t[k].toNat = y := ⟨_, rfl⟩
        have HST := Lib.hid (alike_step (show (txt s)[k]? = some x from by rw [HX.out, hx]) (show (txt t)[k]? = some y from by rw [HY.out, hy]))
        clear HX HY
        by_cases hxy : x = y
        · subst hxy
          have HE2 := Lib.hid (show alikeN (txt s) (txt t) = alikeN ((txt s).drop (k + 1)) ((txt t).drop (k + 1)) + (k + 1) from by rw [HE.out, HST.out, if_pos rfl]; omega)
          clear HE HST
          go_wp2_with fail
          go_quiet (fail)
          go_wp2_with fail
          exact ⟨⟨k + 1, by go_num, by omega, HE2, hd.drewN _⟩, by simp [intOf]; omega⟩
        · have HE2 := Lib.hid (show alikeN (txt s) (txt t) = k from by rw [HE.out, HST.out, if_neg hxy]; omega)
          have hxy2 : ((x : Int) == (y : Int)) = false := by
            have : (x : Int) ≠ (y : Int) := by omega
            simpa using this
          clear HE HST
          go_wp2_with fail
          go_quiet (fail)
          go_wp2_with fail
          go_ret
          exact ⟨by rw [HE2.out]; rfl, hd.drewN _⟩
      · have HE2 := Lib.hid (show alikeN (txt s) (txt t) = k from by
          rw [HE.out, show (txt t).drop k = [] from List.drop_of_length_le (by rw [txt_len]; omega), alikeN_right, Nat.zero_add])
        have hkt2 : decide (k < t.size) = false := by simp; omega
        clear HE
        go_wp2_with fail
        go_quiet (fail)
        go_wp2_with fail
        go_ret
        exact ⟨by rw [HE2.out]; rfl, hd.drewN _⟩
    · obtain rfl : k = s.size := by omega
      have HE2 := Lib.hid (show alikeN (txt s) (txt t) = s.size from by
        rw [HE.out, show (txt s).drop s.size = [] from List.drop_of_length_le (by rw [txt_len]; exact Nat.le_refl _), alikeN_left, Nat.zero_add])
      clear HE
      go_wp2_with fail
      go_quiet (fail)
      go_wp2_with fail
      go_ret
      exact ⟨by rw [HE2.out]; rfl, hd.drewN _⟩
section
variable {lo hi f ct cb cs n N m : Nat} {T : CT} {ss : List ByteArray} {At Ab As : Option Addr}
/-- What Text answers. -/
def textV (ss : List ByteArray) (i : Int) : Value := match (if i < 0 then none else ss[i.toNat]?) with | some s => .tuple #[.string s, .bool true] | none => .tuple #[.string ⟨#[]⟩, .bool false]
theorem textV_some {ss : List ByteArray} {i : Int} {s : ByteArray} (h0 : 0 ≤ i) (h : ss[i.toNat]? = some s) : textV ss i = .tuple #[.string s, .bool true] := by unfold textV; rw [if_neg (by omega), h]
theorem textV_none {ss : List ByteArray} {i : Int} (h : i < 0 ∨ (ss.length : Int) ≤ i) : textV ss i = .tuple #[.string ⟨#[]⟩, .bool false] := by
  unfold textV
  by_cases h0 : i < 0
  · rw [if_pos h0]
  · rw [if_neg h0, List.getElem?_eq_none (by omega)]
set_option maxRecDepth 100000 in
set_option maxHeartbeats 4000000 in
theorem rtext_any (i : Int) (w : World) (h : RfM w lo hi f T ss At Ab As ct cb cs n N m) :
    Calls Tryz.prog 43 #[.pointer (some ⟨f, 0, none⟩), .int .i64 i] w fun e w' => e = .returned (textV ss i) ∧ w = w' := by
  obtain ⟨hc0, hc1, hc2⟩ := h.cells
  have HR := Lib.hid h.rt
  have HN := Lib.hid h.nt
  clear h hc1 hc2
  by_cases h1 : i < 0
  · rw [textV_none (.inl h1)]
    have h1d : decide (i < 0) = true := by simpa using h1
    go_enter Tryz.func43, Tryz.ntmps43
    go_wp2_with fail
    go_ret2
    exact ⟨rfl, rfl⟩
  · obtain ⟨k, rfl⟩ : ∃ k : Nat, i = (k : Int) := ⟨i.toNat, by omega⟩
    by_cases h2 : k < n
    · obtain ⟨s, ad, hs, rfl, _, hcs⟩ := HR.out.str (k := k) (by rw [HN.out]; exact h2)
      rw [textV_some (by omega) (show ss[((k : Int)).toNat]? = some s from hs)]
      have hb0 : (0 : Int) ≤ (k : Int) := by omega
      have hb1 : (k : Int) < (n : Int) := by omega
      have hb2 : decide (n ≤ k) = false := by simp; omega
      clear hs
      go_enter Tryz.func43, Tryz.ntmps43
      go_wp2_with fail
      go_ret2
      exact ⟨rfl, rfl⟩
    · rw [textV_none (.inr (by rw [HN.out]; omega))]
      have hb2 : decide (n ≤ k) = true := by simp; omega
      go_enter Tryz.func43, Tryz.ntmps43
      go_wp2_with fail
      go_ret2
      exact ⟨rfl, rfl⟩
set_option maxRecDepth 100000 in
set_option maxHeartbeats 4000000 in
theorem rfind_any (s : ByteArray) (w : World) (h : RfM w lo hi f T ss At Ab As ct cb cs n N m) (hn9 : n ≤ 1000000) :
    Calls Tryz.prog 44 #[.pointer (some ⟨f, 0, none⟩), .string s] w fun e w' => e = .returned (.tuple #[.int .i64 ((findN ss s : Nat) : Int), .bool (isF ss s)]) ∧ Dr w w' := by
  obtain ⟨hc0, hc1, hc2⟩ := h.cells
  have HC := Lib.hid hc0
  have HR := Lib.hid h.rt
  have HN := Lib.hid h.nt
  clear h hc1 hc2 hc0
  go_enter Tryz.func44, Tryz.ntmps44
  go_wp2_with fail
  go_loopw [6] (fun i wr => ∃ k : Nat, i = .int .i64 (k : Int) ∧ k ≤ n ∧ Hid (k ≤ findN ss s) ∧ Dr w wr) (fun i _ => n - (intOf i).toNat)
  case atStart => exact ⟨0, rfl, by omega, Lib.hid (by omega), Dr.refl w⟩
  case round =>
    obtain ⟨k, rfl, hk, HE, hd⟩ := hrel
    have hc0 : wr.cell? ⟨f, 0, none⟩ = some (.slice At n ct) := (hd.kp []).cell HC.out (by simp)
    have hk0 : (0 : Int) ≤ (k : Int) := by omega
    by_cases hlt : k < n
    · obtain ⟨t, ad, ht, rfl, _, hct⟩ := (HR.out.kp0 (hd.kp [])).str (k := k) (by rw [HN.out]; exact hlt)
      have hk1 : (k : Int) < (n : Int) := by omega
      have HST := Lib.hid (findN_step HE.out ht)
      have HTK := Lib.hid ht
      have HLT := Lib.hid (less_txt t s)
      clear ht
      cases hxx : lexN (txt t) (txt s) with
      | true =>
        have hl : Op.bytesLess t.toList s.toList = true := by rw [HLT.out, hxx]
        have HE2 := Lib.hid (HST.out.1 hxx)
        clear hxx
        go_wp2_with fail
        exact ⟨⟨k + 1, by go_num, by omega, HE2, hd⟩, by simp [intOf]; omega⟩
      | false =>
        have hl : Op.bytesLess t.toList s.toList = false := by rw [HLT.out, hxx]
        have HF := Lib.hid (HST.out.2 hxx)
        have HIS := Lib.hid (show isF ss s = decide (t = s) from by unfold isF; rw [HF.out, HTK.out]; simp)
        clear hxx
        by_cases hts : t = s
        · subst hts
          go_wp2_with fail
          go_quiet (fail)
          go_wp2_with fail
          go_ret2
          exact ⟨by rw [HF.out, HIS.out]; simp, hd.drewN _⟩
        · have hee := str_eq_false hts
          go_wp2_with fail
          go_quiet (fail)
          go_wp2_with fail
          go_ret2
          exact ⟨by rw [HF.out, HIS.out, decide_eq_false hts]; rfl, hd.drewN _⟩
    · obtain rfl : k = n := by omega
      have HF := Lib.hid (show findN ss s = k from Nat.le_antisymm (by have := findN_le ss s; rwa [HN.out] at this) HE.out)
      have HIS := Lib.hid (show isF ss s = false from by unfold isF; rw [HF.out, List.getElem?_eq_none (by rw [HN.out]; exact Nat.le_refl _)]; simp)
      go_wp2_with fail
      go_quiet (fail)
      go_wp2_with fail
      go_ret2
      exact ⟨by rw [HF.out, HIS.out]; rfl, hd.drewN _⟩
end
end Go.Proofs.YtlaionhlejmjdaaGreatDoor
namespace Go.Proofs.YtlaionhlejmjdaaGreatDoor
open Go.RowKit

/-- The second loop of the document's Of. -/
def RFt (w0 w : World) (S : List Nat) (f q n ct : Nat) (At A : Option Addr) (c ms : Nat) (xs : List Nat) (L : List Bool) : Prop :=
  Blk w f 53 [.slice At n ct, .slice none 0 0, .slice A ms c] ∧ w.ownsRow (f + 1) 3 1 (.slice A ms c) ms (natV xs) ∧ WrR w S q (L, 0) ∧ f ∉ S ∧ (∀ g ∈ ownL (.slice A ms c), g ∉ S) ∧ (∀ g ∈ S, f < g) ∧ w0.heap.size ≤ f ∧ Kp [] w0 w
section
variable {w0 w w' : World} {S : List Nat} {f q n ct c ms : Nat} {At A : Option Addr} {xs : List Nat} {L L' : List Bool}
theorem RFt.kp0 (h : RFt w0 w S f q n ct At A c ms xs L) (hk : Kp [] w w') : RFt w0 w' S f q n ct At A c ms xs L := by
  obtain ⟨h1, h2, h3, h4, h5, h6, h7, h8⟩ := h
  exact ⟨h1.kp0 hk, own_kp0 h2 hk, h3.kp0 hk, h4, h5, h6, h7, h8.trans hk⟩
theorem RFt.wr (h : RFt w0 w S f q n ct At A c ms xs L) (hw : RPost w w' S q (L', 0)) : ∃ S', RFt w0 w' S' f q n ct At A c ms xs L' := by
  obtain ⟨h1, h2, h3, h4, h5, h6, h7, h8⟩ := h
  obtain ⟨S', k1, k2, k3⟩ := hw
  have hf := h1.lt
  refine ⟨S', h1.kp k2 h4, own_kp h2 k2 (fun g hg => h5 g (mem_ownL.2 hg)), k1, fun hm => ?_, fun g hg hm => ?_, fun g hg => ?_, h7, h8.trans' k2 (fun x hx => .inr (by have := h6 x hx; omega))⟩
  · rcases k3 f hm with h | h
    · exact h4 h
    · omega
  · have := (own_ge h2 (mem_ownL.1 hg)).2
    rcases k3 g hm with h | h
    · exact h5 g hg h
    · omega
  · rcases k3 g hg with h | h
    · exact h6 g h
    · omega
theorem RFt.start {v : Value} {x : Nat} (h : RFt w0 w S f q n ct At A c ms xs L) (hP : AppP w (f + 1) 3 1 (ms + 1) (.slice A ms c) (natV xs ++ [.int .i64 (x : Int)]) v w') :
    ∃ (A7 : Option Addr) (c7 : Nat), v = .slice A7 (ms + 1) c7 ∧ RFt w0 (w'.setCell ⟨f, 2, none⟩ (.slice A7 (ms + 1) c7)) S f q n ct At A7 c7 (ms + 1) (xs ++ [x]) L ∧ w'.cell? ⟨f, 2, none⟩ = some (.slice A ms c) ∧ w'.frozen? ⟨f, 2, none⟩ = false := by
  obtain ⟨h1, h2, h3, h4, h5, h6, h7, h8⟩ := h
  obtain ⟨A7, c7, rfl, hown7, hk7, hn7⟩ := hP
  have hf := h1.lt
  have hf5 : f ∉ ownL (.slice A ms c) := fun hm => by have := (own_ge h2 (mem_ownL.1 hm)).1; omega
  have hf7 : f ∉ ownL (.slice A7 (ms + 1) c7) := fun hm => by have := (own_ge hown7 (mem_ownL.1 hm)).1; omega
  have hb7 := h1.kp hk7 hf5
  have hks : Kp [f] w' (w'.setCell ⟨f, 2, none⟩ (.slice A7 (ms + 1) c7)) := (Kp.refl _ _).setCell (.inl (by simp)) _
  have hw7 := h3.kp hk7 (fun g hg hm => h5 g hm hg)
  refine ⟨A7, c7, rfl, ⟨hb7.set_ 2 _, ?_, hw7.kp hks (fun g hg hm => by rw [List.mem_singleton.1 hm] at hg; exact h4 hg), h4, fun g hg hm => ?_, h6, h7, ?_⟩, by rw [hb7.cell]; rfl, hb7.free 2⟩
  · rw [natV_snoc]
    exact own_kp hown7 hks (fun g hg hm => by rw [List.mem_singleton.1 hm] at hg; exact hf7 (mem_ownL.2 hg))
  · rcases hn7 g hg with h | h
    · exact h5 g h hm
    · have := h3.lt g hm; omega
  · exact (h8.trans' hk7 (fun x hx => .inr (by have := (own_ge h2 (mem_ownL.1 hx)).1; omega))).trans' hks (fun x hx => .inr (by rw [List.mem_singleton.1 hx]; exact h7))
/-- The bits are laid into the front. -/
theorem RFt.done {T : CT} {ss : List ByteArray} {lo : Nat} (h : RFt w0 w S f q n ct At A c ms (startsN T ss) (frontB T ss)) (hn : ss.length = n) (ht : Rd w w.heap.size At (ss.map .string)) (hbt : ∀ ad, At = some ad → lo ≤ ad.block) (htf : ∀ ad, At = some ad → ad.block ≠ f) (hlo : lo ≤ w0.heap.size) :
    ∃ (Ab : Option Addr) (cb : Nat), w.cell? ⟨q, 0, none⟩ = some (.slice Ab (frontB T ss).length cb) ∧ w.cell? ⟨q, 1, none⟩ = some (.int .i64 0) ∧ w.cell? ⟨f, 1, none⟩ = some (.slice none 0 0) ∧ w.frozen? ⟨f, 1, none⟩ = false ∧
      RfM (w.setCell ⟨f, 1, none⟩ (.slice Ab (frontB T ss).length cb)) lo (w.setCell ⟨f, 1, none⟩ (.slice Ab (frontB T ss).length cb)).heap.size f T ss At Ab A ct cb c n (frontB T ss).length ms ∧ Kp [] w0 (w.setCell ⟨f, 1, none⟩ (.slice Ab (frontB T ss).length cb)) := by
  obtain ⟨h1, h2, ⟨Ab, cb, k1, k2, k3, k4⟩, h4, h5, h6, h7, h8⟩ := h
  have hks : Kp [f] w (w.setCell ⟨f, 1, none⟩ (.slice Ab (frontB T ss).length cb)) := (Kp.refl _ _).setCell (.inl (by simp)) _
  have hz : (w.setCell ⟨f, 1, none⟩ (.slice Ab (frontB T ss).length cb)).heap.size = w.heap.size := by simp
  have hms : (startsN T ss).length = ms := by have := h2.1; unfold natV at this; rw [List.length_map] at this; omega
  have hff := h1.lt
  obtain ⟨_, _, he, hle, _, _, hA⟩ := own_form h2
  injection he with e1 e2 e3
  subst e1 e3
  obtain ⟨_, _, he', hle', _, _, hA'⟩ := own_form k2
  injection he' with e1' e2' e3'
  subst e1' e3'
  refine ⟨Ab, cb, by rw [k1.cell]; rfl, by rw [k1.cell]; rfl, by rw [h1.cell]; rfl, h1.free 1, ⟨h1.set_ 1 _, ?_, ?_, ?_, ⟨Nat.le_trans hlo h7, by rw [hz]; exact hff⟩, hbt, fun ad e => ?_, fun ad e => ?_, hn, rfl, hms, hle', own_kp k2 hks (fun g hg hm => h4 (by rw [← List.mem_singleton.1 hm, k4]; exact List.mem_cons_of_mem _ (mem_ownL.2 hg))), fun g hg => ?_⟩, h8.trans' hks (fun x hx => .inr (by rw [List.mem_singleton.1 hx]; exact h7))⟩
  · rw [hz]
    exact ht.kp_ne hks (fun ad e hm => htf ad e (List.mem_singleton.1 hm))
  · rw [hz]
    exact (own_rd k2).kp_ne hks (fun ad e hm => by
      have h9 : ad.block ∈ S := by
        obtain ⟨h9, h10, _, _⟩ := hA' ad e
        rw [k4]
        refine List.mem_cons_of_mem _ (mem_ownL.2 ?_)
        subst e
        cases ad
        simp only at h9 h10
        subst h9 h10
        rfl
      rw [List.mem_singleton.1 hm] at h9
      exact h4 h9)
  · rw [hz]
    exact (own_rd h2).kp_ne hks (fun ad e hm => by have := (hA ad e).2.2.1; rw [List.mem_singleton.1 hm] at this; omega)
  · have h9 : ad.block ∈ S := by
      obtain ⟨h9, h10, _, _⟩ := hA' ad e
      rw [k4]
      refine List.mem_cons_of_mem _ (mem_ownL.2 ?_)
      subst e
      cases ad
      simp only at h9 h10
      subst h9 h10
      rfl
    have := h6 _ h9
    omega
  · have := (hA ad e).2.2.1
    omega
  · have h9 : g ∈ S := by rw [k4]; exact List.mem_cons_of_mem _ (mem_ownL.2 hg)
    have h10 := h6 g h9
    have h11 := (own_ge k2 hg).2
    rw [hz]
    omega
end
def RofP (w : World) (T : CT) (ss : List ByteArray) (e : Ending) (w' : World) : Prop := Kp [] w w' ∧ ((riseT ss = false ∧ e = .returned (.tuple #[.pointer none, .int .i64 12])) ∨ (riseT ss = true ∧ (∃ s ∈ ss, encT T s = none) ∧ e = .returned (.tuple #[.pointer none, .int .i64 2])) ∨
  (riseT ss = true ∧ (∀ s ∈ ss, ∃ r, encT T s = some r) ∧ ∃ (f : Nat) (At Ab As : Option Addr) (ct cb cs n N m : Nat), e = .returned (.tuple #[.pointer (some ⟨f, 0, none⟩), .int .i64 0]) ∧ RfM w' w.heap.size w'.heap.size f T ss At Ab As ct cb cs n N m))
set_option maxRecDepth 100000 in
set_option maxHeartbeats 4000000 in
theorem rfof_any (lo hi p n c B : Nat) (A : Option Addr) (ss : List ByteArray) (T : CT) (sg : List Nat) (ls : List Int) (w : World) (h : RCode w lo hi p T sg ls) (hx : Rd w B A (ss.map .string)) (hn : ss.length = n) (hn3 : n ≤ 30000) (hsz : ∀ s ∈ ss, s.size ≤ 30000) (hbl : ∀ j, (frontB T (ss.take j)).length ≤ 9000000) :
    Calls Tryz.prog 12 #[.pointer (some ⟨p, 0, none⟩), .slice A n c] w (RofP w T ss) := by
  obtain ⟨i0, hi0, hz0, hz1, hz2⟩ := info_parts Tryz.info_aint
  obtain ⟨is, his, hs0, hs1, hs2⟩ := info_parts Tryz.info_str12
  have HSZ := Lib.hid hsz
  have HC := Lib.hid h
  have HX := Lib.hid hx
  have HN := Lib.hid hn
  have HC0 := HC
  have HX0 := HX
  have HBL := Lib.hid hbl
  clear h hx hn hsz hbl
  go_enter Tryz.func12, Tryz.ntmps12
  go_wp2_with fail
  go_loopw [6] (fun x wr => ∃ k : Nat, x = .int .i64 (k : Int) ∧ 1 ≤ k ∧ (k ≤ n ∨ k = 1) ∧ Hid (∀ i s t, i + 1 < k → ss[i]? = some s → ss[i + 1]? = some t → lexN (txt s) (txt t) = true) ∧ Hid (Kp [] w wr)) (fun x _ => n - (intOf x).toNat)
  case atStart => exact ⟨1, rfl, by omega, .inr rfl, Lib.hid (fun i s t h => by omega), Lib.hid (Kp.refl _ _)⟩
  case round =>
    obtain ⟨k, rfl, hk1, hk, HA, HKR⟩ := hrel
    by_cases hlt : k < n
    · obtain ⟨j, rfl⟩ : ∃ j, k = j + 1 := ⟨k - 1, by omega⟩
      obtain ⟨t, ad, ht, rfl, _, hct⟩ := (HX.out.kp0 HKR.out).str (k := j + 1) (by rw [HN.out]; exact hlt)
      obtain ⟨s, ad', hs, e', _, hcs⟩ := (HX.out.kp0 HKR.out).str (k := j) (by rw [HN.out]; omega)
      injection e' with e'
      subst e'
      have hctp : wr.cell? ⟨ad.block, ad.off + (j + 1), none⟩ = some (.string t) := hct
      have hb0 : (0 : Int) ≤ (j : Int) := by omega
      have hb1 : (j : Int) < (n : Int) := by omega
      have hb2 : (j : Int) + 1 < (n : Int) := by omega
      have HLT := Lib.hid (less_txt s t)
      have HS := Lib.hid hs
      have HT := Lib.hid ht
      clear hct hs ht
      cases hxx : lexN (txt s) (txt t) with
      | true =>
        have hl : Op.bytesLess s.toList t.toList = true := by rw [HLT.out, hxx]
        have HA2 := Lib.hid (show ∀ i s t, i + 1 < j + 1 + 1 → ss[i]? = some s → ss[i + 1]? = some t → lexN (txt s) (txt t) = true from fun i s' t' hi h1 h2 => by
          by_cases hij : i = j
          · subst hij
            rw [HS.out] at h1
            rw [HT.out] at h2
            injection h1 with h1
            injection h2 with h2
            subst h1 h2
            exact hxx
          · exact HA.out i s' t' (by omega) h1 h2)
        clear hxx
        go_wp2_with fail
        go_quiet (fail)
        go_wp2_with fail
        exact ⟨⟨j + 1 + 1, by go_num, by omega, .inl (by omega), HA2, Lib.hid (HKR.out.drewN _)⟩, by simp [intOf]; omega⟩
      | false =>
        have hl : Op.bytesLess s.toList t.toList = false := by rw [HLT.out, hxx]
        have HE := Lib.hid (show riseT ss = false from by
          cases h : riseT ss with
          | false => rfl
          | true => rw [(riseT_iff ss).1 h j s t HS.out HT.out] at hxx; cases hxx)
        clear hxx
        go_wp2_with fail
        go_quiet (fail)
        go_wp2_with fail
        go_ret2
        exact ⟨HKR.out.drewN _, .inl ⟨HE.out, rfl⟩⟩
    · have HR := Lib.hid (show riseT ss = true from (riseT_iff ss).2 (fun i s t h1 h2 => HA.out i s t (by have h3 := (List.getElem?_eq_some_iff.1 h2).1; rw [HN.out] at h3; omega) h1 h2))
      have HK := HKR
      have HW1 := Lib.hid (show Kp [] wr wr from Kp.refl _ _)
      obtain ⟨w1, hw1⟩ : ∃ w1, w1 = wr := ⟨_, rfl⟩
      rw [← hw1] at HK ⊢
      clear HA hw1 HKR HW1
      go_wp2_with fail
      go_loopw [7] (fun x wr => ∃ k : Nat, x = .int .i64 (k : Int) ∧ k ≤ n ∧ Hid (∀ s ∈ ss.take k, ∃ r, encT T s = some r) ∧ Hid (Kp [] w wr)) (fun x _ => n - (intOf x).toNat)
      case atStart => exact ⟨0, rfl, by omega, Lib.hid (by simp), HK⟩
      case round =>
        clear HK
        obtain ⟨k, rfl, hk, HA, HKR⟩ := hrel
        by_cases hlt : k < n
        · obtain ⟨s, ad, hs, rfl, _, hcs⟩ := (HX.out.kp0 HKR.out).str (k := k) (by rw [HN.out]; exact hlt)
          have hsz := HSZ.out s (List.mem_of_getElem? hs)
          have hb0 : (0 : Int) ≤ (k : Int) := by omega
          have hb1 : (k : Int) < (n : Int) := by omega
          have HS := Lib.hid hs
          clear hs
          go_wp2_with fail
          refine (rbits6_any lo hi p T sg ls s wr (HC.out.kp0 HKR.out) (by omega)).mono ?_
          obtain ⟨o, ho⟩ : ∃ o, o = encT T s := ⟨_, rfl⟩
          rw [← ho]
          intro e w3 hp
          rcases o with _ | r
          · obtain ⟨⟨v, rfl⟩, hk3⟩ := hp
            have HK3 := Lib.hid (HKR.out.trans hk3)
            have HEX := Lib.hid (show ∃ s ∈ ss, encT T s = none from ⟨s, List.mem_of_getElem? HS.out, ho.symm⟩)
            clear ho hk3
            go_wp2_with fail
            go_ret2
            exact ⟨HK3.out, .inr (.inl ⟨HR.out, HEX.out, rfl⟩)⟩
          · obtain ⟨A3, m3, c3, hm3, rfl, hown3, hk3⟩ := hp
            have HK3 := Lib.hid (HKR.out.trans hk3)
            have HA2 := Lib.hid (show ∀ s ∈ ss.take (k + 1), ∃ r, encT T s = some r from fun t ht => by
              rw [take_succ_of HS.out] at ht
              rcases List.mem_append.1 ht with ht | ht
              · exact HA.out t ht
              · rw [List.mem_singleton.1 ht]; exact ⟨r, ho.symm⟩)
            clear ho hk3 hm3 hown3 hcs
            go_wp2_with fail
            exact ⟨⟨k + 1, by go_num, by omega, HA2, HK3⟩, by simp [intOf]; omega⟩
        · obtain rfl : k = n := by omega
          have HALL := Lib.hid (show ∀ s ∈ ss, ∃ r, encT T s = some r from by
            have := HA.out
            rwa [List.take_of_length_le (by rw [HN.out]; exact Nat.le_refl _)] at this)
          have HK := HKR
          have HXL := Lib.hid (show (ss.map Value.string : List Value).length = k * 1 by rw [List.length_map, HN.out, Nat.mul_one])
          replace HX := Lib.hid (HX.out.kp0 HKR.out)
          clear HA HKR hlt hk
          go_wp2_with first
            | (at_builtin; refine wpList_append_rd rfl (.tmp 49) (.tmp 50) 22 rfl wr.heap.size 9 is (.string ⟨#[]⟩) 1 16 Tryz.underlying22 his hs0 hs1 hs2 rfl (by decide) (.slice (some ⟨wr.heap.size, 0, none⟩) 0 0) 0 [] rfl (own_nilS wr wr.heap.size _ 1 (Nat.le_refl _)) _ _ k c (ss.map .string) rfl HXL.out (HX.out.kp0 ((Kp.refl [] _).alloc _)) (ocS _) (by unfold maxLen; omega) (by omega) (by simp) ?_; intro v4 w4 hown4 hgrow4 hat4
               rw [Nat.zero_add, List.nil_append] at hown4
               obtain ⟨At, ct, rfl, hle4, _, hA4, hB4⟩ := own_form hown4
               have hk4 : Kp [] wr w4 := ((Kp.refl [] wr).alloc _).grown hgrow4 (fun x hx => .inr (by simp [Value.ownBlock] at hx; omega))
               have HO4 := Lib.hid (own_rd hown4)
               have HB4 := Lib.hid (show ∀ ad, At = some ad → wr.heap.size ≤ ad.block ∧ ad.block < w4.heap.size from fun ad e => ⟨(hB4 ad e).2.2.1, (hB4 ad e).2.2.2⟩)
               have HK4 := Lib.hid (HK.out.trans hk4)
               have HW4 := Lib.hid (Nat.le_trans HK.out.size (Nat.le_refl _))
               clear hown4 hgrow4 hat4 hk4 hle4 hA4 hB4)
          go_wp2_with fail
          obtain ⟨w5, hw5⟩ : ∃ w5, w5 = w4.alloc (.cells #[.slice At k ct, .slice none 0 0, .slice none 0 0] 53) := ⟨_, rfl⟩
          obtain ⟨w6, hw6⟩ : ∃ w6, w6 = w5.alloc (.cells #[.slice none 0 0, .int .i64 0] 85) := ⟨_, rfl⟩
          obtain ⟨f, hf⟩ : ∃ f, f = w4.heap.size := ⟨_, rfl⟩
          obtain ⟨q, hq⟩ : ∃ q, q = f + 1 := ⟨_, rfl⟩
          rw [← hw5, ← hw6, ← hf, ← hq]
          have h5s : w5.heap.size = f + 1 := by rw [hw5, hf]; simp
          have hk5 : Kp [] w4 w5 := by rw [hw5]; exact (Kp.refl [] w4).alloc _
          have hk6 : Kp [] w5 w6 := by rw [hw6]; exact (Kp.refl [] w5).alloc _
          have HST := Lib.hid (show RFt w4 w6 [q] f q k ct At none 0 0 [] [] from by
            refine ⟨Blk.kp0 (show Blk w5 f 53 [.slice At k ct, .slice none 0 0, .slice none 0 0] from by rw [hw5, hf]; exact Blk.new w4 53 [.slice At k ct, .slice none 0 0, .slice none 0 0]) hk6, World.ownsRow_nil _ _ _ 1, ⟨none, 0, by rw [hw6, hq, ← h5s]; exact Blk.new w5 85 [.slice none 0 0, .int .i64 0], World.ownsRow_nil _ _ _ 1, by simp, rfl⟩, ?_, (by intro g hg; cases hg), ?_, by rw [hf]; exact Nat.le_refl _, hk5.trans hk6⟩
            · intro hm; have := List.mem_singleton.1 hm; omega
            · intro g hg; have := List.mem_singleton.1 hg; omega)
          have HFF := Lib.hid hf
          clear hw5 hw6 hq h5s hk5 hk6 hf
          go_loopw [12] (fun x wr => ∃ (j c2 m : Nat) (A2 : Option Addr) (S : List Nat), x = .int .i64 (j : Int) ∧ j ≤ k ∧ m ≤ j ∧ Hid (RFt w4 wr S f q k ct At A2 c2 m (startsN T (ss.take j)) (frontB T (ss.take j)))) (fun x _ => k - (intOf x).toNat)
          case atStart => exact ⟨0, 0, 0, none, [q], rfl, by omega, by omega, Lib.hid (by rw [(front_zero T ss).1, (front_zero T ss).2]; exact HST.out)⟩
          case round =>
            clear HST
            obtain ⟨j, c2, m, A2, S, rfl, hj, hm, HS⟩ := hrel
            have HKW := Lib.hid (HK4.out.trans HS.out.2.2.2.2.2.2.2)
            by_cases hlt : j < k
            · obtain ⟨s, ad, hs, rfl, hadb, hcs⟩ := (HX0.out.kp0 HKW.out).str (k := j) (by rw [HN.out]; exact hlt)
              have hb0 : (0 : Int) ≤ (j : Int) := by omega
              have hb1 : (j : Int) < (k : Int) := by omega
              have hsz := HSZ.out s (List.mem_of_getElem? hs)
              obtain ⟨r, hr⟩ := HALL.out s (List.mem_of_getElem? hs)
              have HNX := Lib.hid (frontB_next T hs)
              have HST := Lib.hid (starts_next T ss j (by rw [HN.out]; exact hlt))
              have HE0 := Lib.hid (show ∃ v, encT T s = some v ∧ encD T (txt s) 0 = v from ⟨r, hr, by unfold encD; rw [List.drop_zero, show T.enc (sgs (txt s)) = some r from hr]; rfl⟩)
              have HE := Lib.hid (show ∀ i, ∃ v, encT T (s.extract i s.size) = some v ∧ encD T (txt s) i = v from fun i => by
                obtain ⟨u, v, hv, _⟩ := enc_rest (show T.enc (sgs (txt s)) = some r from hr) i
                exact ⟨v, by unfold encT; rw [txt_tail]; exact hv, by unfold encD; rw [hv]; rfl⟩)
              have HBJ := Lib.hid (HBL.out (j + 1))
              obtain ⟨rm, hrm⟩ : ∃ rm, rm = j % 8 := ⟨_, rfl⟩
              have HRM := Lib.hid hrm
              have HTM := Lib.hid (show Int.tmod (j : Int) 8 = (rm : Int) from by rw [Int.tmod_eq_emod_of_nonneg (by omega)]; omega)
              have HSS := Lib.hid hs
              obtain ⟨N, hN⟩ : ∃ N, (frontB T (ss.take j)).length = N := ⟨_, rfl⟩
              have HNL := Lib.hid hN
              clear hs hr hrm hN
              by_cases hz : rm = 0
              · have hrz : ((rm : Int) == 0) = true := by simp; omega
                have hcst : wr.cell? ⟨f, 2, none⟩ = some (.slice A2 m c2) := by rw [HS.out.1.cell]; rfl
                have HOW := Lib.hid HS.out.2.1
                have HFZ := Lib.hid (show f + 1 ≤ wr.heap.size from HS.out.1.lt)
                obtain ⟨Aq, cq, hbq, _⟩ := HS.out.2.2.1
                have hcq : wr.cell? ⟨q, 0, none⟩ = some (.slice Aq N cq) := by rw [hbq.cell, ← HNL.out]; rfl
                have htm := HTM.out
                clear hbq
                go_wp2_with fail
                refine wp_region_tail (by kernel_rfl) 14 121 11 76 [65, 66, 67, 68, 69, 70, 71, 72, 73, 74, 75, 76, 77, 78] [[], [], [66], [66, 67], [66, 67, 68], [], [70], [70, 71], [70, 71, 72], [70, 71, 72, 73], [70, 71, 72, 73, 74], [66, 67, 68, 69, 70, 71, 72, 73, 74, 75], [65], [65, 77]] [65, 66, 67, 68, 69, 70, 71, 72, 73, 74, 77, 78] [76] [.pointer (some ⟨f, 0, none⟩), .pointer (some ⟨f, 0, none⟩), .pointer (some ⟨f, 0, none⟩), .pointer (some ⟨f, 2, none⟩), .slice A2 m c2, .pointer (some ⟨q, 0, none⟩), .pointer (some ⟨q, 0, none⟩), .pointer (some ⟨q, 0, none⟩), .slice Aq N cq, .int .i64 (N : Int), .pointer (some ⟨f, 0, none⟩), .pointer (some ⟨f, 2, none⟩)] [(65, .eq (.pointer (some ⟨f, 0, none⟩))), (66, .eq (.pointer (some ⟨f, 0, none⟩))), (67, .eq (.pointer (some ⟨f, 0, none⟩))), (68, .eq (.pointer (some ⟨f, 2, none⟩))), (69, .eq (.slice A2 m c2)), (70, .eq (.pointer (some ⟨q, 0, none⟩))), (71, .eq (.pointer (some ⟨q, 0, none⟩))), (72, .eq (.pointer (some ⟨q, 0, none⟩))), (73, .eq (.slice Aq N cq)), (74, .eq (.int .i64 (N : Int))), (75, SFact.vals 1 ([.int .i64 (N : Int)])), (76, (⟨AppP wr (f + 1) 3 1 (m + 1) (.slice A2 m c2) (natV (startsN T (ss.take j)) ++ [.int .i64 (N : Int)]), AppP.st⟩ : SFact)), (77, .eq (.pointer (some ⟨f, 0, none⟩))), (78, .eq (.pointer (some ⟨f, 2, none⟩)))] rfl (by kernel_rfl) (by kernel_rfl) (by kernel_rfl) rfl rfl _ (fun x => by simp only [fillL, Nat.reduceAdd, Nat.reduceEqDiff, ↓reduceIte]; rfl) ?_ ?_ ?_
                · refine ⟨?_, ?_, ?_, ?_, ?_, ?_, ?_, ?_, ?_, ?_, ?_, ?_, ?_, ?_, trivial⟩
                  · intro fx w' fa hd ev  -- 65 = Op.move (Operand.tmp 10)
                    have e10 : fa.tmps[10]?.getD undef = .pointer (some ⟨f, 0, none⟩) := ev.old 10 rfl
                    refine stepF_un rfl (fun K hK => ?_)
                    exact stepF_val _ hK (run_move rfl e10 _) rfl
                  · intro fx w' fa hk hd ev  -- 66 = Op.move (Operand.tmp 10)
                    have e10 : fa.tmps[10]?.getD undef = .pointer (some ⟨f, 0, none⟩) := ev.old 10 rfl
                    refine stepF_un rfl (fun K hK => ?_)
                    exact stepF_val _ hK (run_move rfl e10 _) rfl
                  · intro fx w' fa hk hd ev  -- 67 = Op.nilCheck (Operand.tmp 66)
                    have h66 : fx 66 = .pointer (some ⟨f, 0, none⟩) := hd.1
                    have e66 : fa.tmps[66]?.getD undef = .pointer (some ⟨f, 0, none⟩) := (ev.new 66 rfl).trans h66
                    refine stepF_un rfl (fun K hK => ?_)
                    go_simp
                    exact hK _ _ rfl (Kp.refl _ _)
                  · intro fx w' fa hk hd ev  -- 68 = Op.fieldAddr 53 (Operand.tmp 67) 2
                    have h67 : fx 67 = .pointer (some ⟨f, 0, none⟩) := hd.2.1
                    have e67 : fa.tmps[67]?.getD undef = .pointer (some ⟨f, 0, none⟩) := (ev.new 67 rfl).trans h67
                    refine stepF_un rfl (fun K hK => ?_)
                    go_simp
                    exact hK _ _ rfl (Kp.refl _ _)
                  · intro fx w' fa hk hd ev  -- 69 = Op.load 51 (Operand.tmp 68)
                    have h68 : fx 68 = .pointer (some ⟨f, 2, none⟩) := hd.2.2.1
                    have e68 : fa.tmps[68]?.getD undef = .pointer (some ⟨f, 2, none⟩) := (ev.new 68 rfl).trans h68
                    refine stepF_un rfl (fun K hK => ?_)
                    have q9 := hk.cell hcst (by simp)
                    go_simp
                    exact hK _ _ rfl (Kp.refl _ _)
                  · intro fx w' fa hk hd ev  -- 70 = Op.move (Operand.tmp 11)
                    have e11 : fa.tmps[11]?.getD undef = .pointer (some ⟨q, 0, none⟩) := ev.old 11 rfl
                    refine stepF_un rfl (fun K hK => ?_)
                    exact stepF_val _ hK (run_move rfl e11 _) rfl
                  · intro fx w' fa hk hd ev  -- 71 = Op.nilCheck (Operand.tmp 70)
                    have h70 : fx 70 = .pointer (some ⟨q, 0, none⟩) := hd.1
                    have e70 : fa.tmps[70]?.getD undef = .pointer (some ⟨q, 0, none⟩) := (ev.new 70 rfl).trans h70
                    refine stepF_un rfl (fun K hK => ?_)
                    go_simp
                    exact hK _ _ rfl (Kp.refl _ _)
                  · intro fx w' fa hk hd ev  -- 72 = Op.fieldAddr 85 (Operand.tmp 71) 0
                    have h71 : fx 71 = .pointer (some ⟨q, 0, none⟩) := hd.2.1
                    have e71 : fa.tmps[71]?.getD undef = .pointer (some ⟨q, 0, none⟩) := (ev.new 71 rfl).trans h71
                    refine stepF_un rfl (fun K hK => ?_)
                    go_simp
                    exact hK _ _ rfl (Kp.refl _ _)
                  · intro fx w' fa hk hd ev  -- 73 = Op.load 43 (Operand.tmp 72)
                    have h72 : fx 72 = .pointer (some ⟨q, 0, none⟩) := hd.2.2.1
                    have e72 : fa.tmps[72]?.getD undef = .pointer (some ⟨q, 0, none⟩) := (ev.new 72 rfl).trans h72
                    refine stepF_un rfl (fun K hK => ?_)
                    have q9 := hk.cell hcq (by simp)
                    go_simp
                    exact hK _ _ rfl (Kp.refl _ _)
                  · intro fx w' fa hk hd ev  -- 74 = Op.call { callee := Callee.builtin Builtin.len, args := #[Op
                    have h73 : fx 73 = .slice Aq N cq := hd.2.2.2.1
                    have e73 : fa.tmps[73]?.getD undef = .slice Aq N cq := (ev.new 73 rfl).trans h73
                    refine stepF_un rfl (fun K hK => ?_)
                    go_simp
                    exact hK _ _ rfl (Kp.refl _ _)
                  · intro fx w' fa hk hd ev  -- 75 = Op.buildSlice 51 1 #[(0, Operand.tmp 74)]
                    have h74 : fx 74 = .int .i64 (N : Int) := hd.2.2.2.2.1
                    have e74 : fa.tmps[74]?.getD undef = .int .i64 (N : Int) := (ev.new 74 rfl).trans h74
                    refine stepF_un rfl (fun K hK => ?_)
                    go_simp
                    exact hK _ _ (vals_new w' ([.int .i64 (N : Int)]) 3 1) ((Kp.refl _ _).alloc _)
                  · exact trivial
                  · intro fx w' fa hd ev  -- 77 = Op.nilCheck (Operand.tmp 65)
                    have h65 : fx 65 = .pointer (some ⟨f, 0, none⟩) := hd.1
                    have e65 : fa.tmps[65]?.getD undef = .pointer (some ⟨f, 0, none⟩) := (ev.new 65 rfl).trans h65
                    refine stepF_un rfl (fun K hK => ?_)
                    go_simp
                    exact hK _ _ rfl (Kp.refl _ _)
                  · intro fx w' fa hd ev  -- 78 = Op.fieldAddr 53 (Operand.tmp 77) 2
                    have h77 : fx 77 = .pointer (some ⟨f, 0, none⟩) := hd.2.1
                    have e77 : fa.tmps[77]?.getD undef = .pointer (some ⟨f, 0, none⟩) := (ev.new 77 rfl).trans h77
                    refine stepF_un rfl (fun K hK => ?_)
                    go_simp
                    exact hK _ _ rfl (Kp.refl _ _)
                · intro o1 ho1 fx w' fa hk hd ev K hK  -- 76 = Op.call { callee := Callee.builtin Builtin.append, args := #
                  obtain rfl := Option.some.inj ho1
                  have h69 : fx 69 = .slice A2 m c2 := hd.2.2.2.1
                  have e69 : fa.tmps[69]?.getD undef = .slice A2 m c2 := (ev.new 69 rfl).trans h69
                  have h75 : (SFact.vals 1 ([.int .i64 (N : Int)]) : SFact).p (fx 75) w' := hd.2.2.2.2.2.2.2.2.2.1
                  obtain ⟨A75, c75, v75, hc75, hr75⟩ := h75
                  have e75 : fa.tmps[75]?.getD undef = .slice A75 1 c75 := (ev.new 75 rfl).trans v75
                  exact wp_append_app 69 75 51 rfl (f + 1) 3 i0 (.int .i64 0) 1 8 Tryz.underlying51 hi0 hz0 hz1 hz2 rfl (by decide) (.slice A2 m c2) m _ e69 HOW.out hk _ A75 1 c75 _ e75 rfl hr75 (by intro u hu; simp at hu; subst hu; rfl) (by unfold maxLen; omega) (by omega) HFZ.out hK
                · intro fx w' hd
                  have h65 : fx 65 = .pointer (some ⟨f, 0, none⟩) := hd.1
                  have h66 : fx 66 = .pointer (some ⟨f, 0, none⟩) := hd.2.1
                  have h67 : fx 67 = .pointer (some ⟨f, 0, none⟩) := hd.2.2.1
                  have h68 : fx 68 = .pointer (some ⟨f, 2, none⟩) := hd.2.2.2.1
                  have h69 : fx 69 = .slice A2 m c2 := hd.2.2.2.2.1
                  have h70 : fx 70 = .pointer (some ⟨q, 0, none⟩) := hd.2.2.2.2.2.1
                  have h71 : fx 71 = .pointer (some ⟨q, 0, none⟩) := hd.2.2.2.2.2.2.1
                  have h72 : fx 72 = .pointer (some ⟨q, 0, none⟩) := hd.2.2.2.2.2.2.2.1
                  have h73 : fx 73 = .slice Aq N cq := hd.2.2.2.2.2.2.2.2.1
                  have h74 : fx 74 = .int .i64 (N : Int) := hd.2.2.2.2.2.2.2.2.2.1
                  have hP : (AppP wr (f + 1) 3 1 (m + 1) (.slice A2 m c2) (natV (startsN T (ss.take j)) ++ [.int .i64 (N : Int)])) (fx 76) w' := hd.2.2.2.2.2.2.2.2.2.2.1
                  have h77 : fx 77 = .pointer (some ⟨f, 0, none⟩) := hd.2.2.2.2.2.2.2.2.2.2.2.1
                  have h78 : fx 78 = .pointer (some ⟨f, 2, none⟩) := hd.2.2.2.2.2.2.2.2.2.2.2.2.1
                  change Oper.wp _ _ _ _ _ _
                  obtain ⟨A7, c7, e76, hS7, g1, g2⟩ := HS.out.start hP
                  obtain ⟨w7, hw7⟩ : ∃ w7, w7 = w'.setCell ⟨f, 2, none⟩ (.slice A7 (m + 1) c7) := ⟨_, rfl⟩
                  rw [← hw7] at hS7
                  have HS7 := Lib.hid hS7
                  rw [e76, h78]
                  clear hd hS7 hcst hcq
                  go_simp
                  rw [← hw7]
                  clear hw7 g1 g2 HS HOW HFZ
                  obtain ⟨s', ad', hs', e', _, hcs7⟩ := (HX0.out.kp0 (HK4.out.trans HS7.out.2.2.2.2.2.2.2)).str (k := j) (by rw [HN.out]; exact hlt)
                  injection e' with e'
                  subst e'
                  rw [HSS.out] at hs'
                  injection hs' with hs'
                  subst hs'
                  go_wp2_with fail
                  rw [show startsN T (ss.take j) ++ [N] = startsN T (ss.take (j + 1)) from by rw [HST.out, if_pos (by have := HRM.out; omega), HNL.out]] at HS7
                  have HLQ := Lib.hid (show frontB T (ss.take j) ++ encD T (txt s) 0 = frontB T (ss.take (j + 1)) from by rw [HNX.out]; unfold pieceF; rw [if_pos (by have := HRM.out; omega)])
                  obtain ⟨v, hv1, hv2⟩ := HE0.out
                  have hLX := HLQ.out
                  rw [hv2] at hLX
                  have hLN := congrArg List.length hLX
                  rw [List.length_append] at hLN
                  have hPT : wPut ((frontB T (ss.take j)), 0) v = ((frontB T (ss.take j)) ++ v, 0) := by
                    unfold wPut
                    rw [if_neg (by simp), if_neg (by have := HBJ.out; show ¬ 16777216 < (frontB T (ss.take j)).length + v.length; omega)]
                  refine (rbits6_any lo hi p T sg ls s w7 (HC0.out.kp0 (HK4.out.trans HS7.out.2.2.2.2.2.2.2)) (by omega)).mono ?_
                  rw [hv1]
                  rintro e w8 ⟨A8, m8, c8, hm8, rfl, hown8, hk8⟩
                  have HS8 := Lib.hid (HS7.out.kp0 hk8)
                  have HR8 := Lib.hid (own_rd hown8)
                  have HM8 := Lib.hid hm8
                  have hm8b : m8 ≤ 1000000000 := by have := HBJ.out; omega
                  have HPT := Lib.hid hPT
                  have HLQ.out := Lib.hid hLX
                  clear hPT hLX hLN hv1 hv2 hm8 hown8 hk8
                  go_wp2_with fail
                  refine (rwput_any S q N m8 c8 _ A8 v ((frontB T (ss.take j)), 0) w8 HS8.out.2.2.1 HNL.out HR8.out HM8.out.symm hm8b).mono ?_
                  rw [HPT.out, HLQ.out.out]
                  rintro e w9 ⟨rfl, hp9⟩
                  obtain ⟨S9, hS9⟩ := HS8.out.wr hp9
                  have HS9 := Lib.hid hS9
                  clear hp9 hS9 HS8
                  go_wp2_with fail
                  exact ⟨⟨j + 1, c7, (m + 1), A7, S9, by go_num, by omega, by omega, HS9⟩, by simp [intOf]; omega⟩
              · have hrz : ((rm : Int) == 0) = false := by simp; omega
                obtain ⟨i, rfl⟩ : ∃ i, j = i + 1 := ⟨j - 1, by have := HRM.out; omega⟩
                obtain ⟨t, ad', ht, e', _, hct⟩ := (HX0.out.kp0 HKW.out).str (k := i) (by rw [HN.out]; omega)
                injection e' with e'
                subst e'
                have HPV := Lib.hid (show prevT ss (i + 1) = txt t from prevT_succ ht)
                have htz := HSZ.out t (List.mem_of_getElem? ht)
                have htm := HTM.out
                have hcs2 : wr.cell? ⟨ad.block, ad.off + (i + 1), none⟩ = some (.string s) := hcs
                obtain ⟨al, hal⟩ : ∃ al, alikeN (txt t) (txt s) = al := ⟨_, rfl⟩
                have hals : al ≤ s.size := by rw [← hal, ← txt_len]; exact (alikeN_le _ _).2.1
                have HAL := Lib.hid hal
                have hb2 : (0 : Int) ≤ (i : Int) := by omega
                have hb3 : (i : Int) < (k : Int) := by omega
                have htm2 : Int.tmod ((i : Int) + 1) 8 = (rm : Int) := by rw [Int.tmod_eq_emod_of_nonneg (by omega)]; have := HRM.out; omega
                have hjr : (((i + 1 : Nat)) : Int) = (i : Int) + 1 := by omega
                have HLK := Lib.hid (fun w' => ralike_any t s w' (by omega) (by omega))
                rw [HAL.out] at HLK
                clear ht hcs hal
                go_wp2_with fail
                go_quiet ((go_at_call 15; exact quiet_dr (HLK.out _)))
                obtain ⟨w7, hw7⟩ : ∃ w7, w7 = wr.drewN nq := ⟨_, rfl⟩
                rw [← hw7]
                have HS7 := Lib.hid (show RFt w4 w7 S f q k ct At A2 c2 m (startsN T (ss.take (i + 1))) (frontB T (ss.take (i + 1))) from HS.out.kp0 (hw7 ▸ (Kp.refl _ _).drewN nq))
                have hcs7 : w7.cell? ⟨ad.block, ad.off + (i + 1), none⟩ = some (.string s) := by rw [hw7]; exact hcs2
                clear hw7 hct hcs2 HLK HS
                go_wp2_with fail
                refine (rgamma_any S q N 1 1 _ _ [((al + 1 : Nat) : Int)] (frontB T (ss.take (i + 1)), 0) _ (HS7.out.2.2.1.kp0 ((Kp.refl [] w7).alloc _)) HNL.out (Rd.new w7 #[.int .i64 ((al + 1 : Nat) : Int)] 3 (0, 0)) rfl (by omega) (by intro x hx; simp at hx; omega)).mono ?_
                rw [wGam_one (L := frontB T (ss.take (i + 1))) (by omega) (by omega) (by have := HBL.out (i + 1); omega)]
                rintro e w8 ⟨rfl, hp8⟩
                obtain ⟨S8, hS8⟩ := (HS7.out.kp0 ((Kp.refl [] w7).alloc _)).wr hp8
                rw [show startsN T (ss.take (i + 1)) = startsN T (ss.take (i + 1 + 1)) from by rw [HST.out, if_neg (by have := HRM.out; omega)]] at hS8
                have HS8 := Lib.hid hS8
                have HLQ := Lib.hid (show (frontB T (ss.take (i + 1)) ++ gamL (al + 1)) ++ encD T (txt s) al = frontB T (ss.take (i + 1 + 1)) from by
                  rw [HNX.out]
                  unfold pieceF
                  rw [if_neg (by have := HRM.out; omega), HPV.out, HAL.out, List.append_assoc])
                obtain ⟨N8, hN8⟩ : ∃ N8, (frontB T (ss.take (i + 1)) ++ gamL (al + 1)).length = N8 := ⟨_, rfl⟩
                have HN8 := Lib.hid hN8
                have HSX := Lib.hid (show (s.extract al s.size).size ≤ 1000000 from by rw [← txt_len, txt_tail, List.length_drop, txt_len]; omega)
                clear hp8 hS8 hN8 HS7 htm htm2 hcs7
                obtain ⟨s', ad', hs', e', _, hcs8⟩ := (HX0.out.kp0 (HK4.out.trans HS8.out.2.2.2.2.2.2.2)).str (k := i + 1) (by rw [HN.out]; exact hlt)
                injection e' with e'
                subst e'
                rw [HSS.out] at hs'
                injection hs' with hs'
                subst hs'
                have hcs9 : w8.cell? ⟨ad.block, ad.off + (i + 1), none⟩ = some (.string s) := hcs8
                clear hcs8
                go_wp2_with fail
                obtain ⟨v, hv1, hv2⟩ := (HE.out al)
                have hLX := HLQ.out
                rw [hv2] at hLX
                have hLN := congrArg List.length hLX
                rw [List.length_append] at hLN
                have hPT : wPut ((frontB T (ss.take (i + 1)) ++ gamL (al + 1)), 0) v = ((frontB T (ss.take (i + 1)) ++ gamL (al + 1)) ++ v, 0) := by
                  unfold wPut
                  rw [if_neg (by simp), if_neg (by have := HBJ.out; show ¬ 16777216 < (frontB T (ss.take (i + 1)) ++ gamL (al + 1)).length + v.length; omega)]
                refine (rbits6_any lo hi p T sg ls (s.extract al s.size) w8 (HC0.out.kp0 (HK4.out.trans HS8.out.2.2.2.2.2.2.2)) HSX.out).mono ?_
                rw [hv1]
                rintro e w8 ⟨A8, m8, c8, hm8, rfl, hown8, hk8⟩
                have HS8 := Lib.hid (HS8.out.kp0 hk8)
                have HR8 := Lib.hid (own_rd hown8)
                have HM8 := Lib.hid hm8
                have hm8b : m8 ≤ 1000000000 := by have := HBJ.out; omega
                have HPT := Lib.hid hPT
                have HLQ.out := Lib.hid hLX
                clear hPT hLX hLN hv1 hv2 hm8 hown8 hk8
                go_wp2_with fail
                refine (rwput_any S8 q N8 m8 c8 _ A8 v ((frontB T (ss.take (i + 1)) ++ gamL (al + 1)), 0) w8 HS8.out.2.2.1 HN8.out HR8.out HM8.out.symm hm8b).mono ?_
                rw [HPT.out, HLQ.out.out]
                rintro e w9 ⟨rfl, hp9⟩
                obtain ⟨S9, hS9⟩ := HS8.out.wr hp9
                have HS9 := Lib.hid hS9
                clear hp9 hS9 HS8
                go_wp2_with fail
                exact ⟨⟨(i + 1) + 1, c2, m, A2, S9, by go_num, by omega, by omega, HS9⟩, by simp [intOf]; omega⟩
            · obtain rfl : j = k := by omega
              have HST := Lib.hid (show RFt w4 wr S f q j ct At A2 c2 m (startsN T ss) (frontB T ss) from by
                have := HS.out
                rwa [List.take_of_length_le (by rw [HN.out]; exact Nat.le_refl _)] at this)
              have HRT := Lib.hid (show Rd wr wr.heap.size At (ss.map .string) from (HO4.out.kp0 HST.out.2.2.2.2.2.2.2).bound HST.out.2.2.2.2.2.2.2.size)
              obtain ⟨Ab, cb, hq0, hq1, hf1, hff, hrf, hkf⟩ := HST.out.done (lo := w.heap.size) HN.out HRT.out (fun ad e => Nat.le_trans HW4.out (HB4.out ad e).1) (fun ad e => by have := (HB4.out ad e).2; have := HFF.out; omega) HK4.out.size
              have HRF := Lib.hid hrf
              have HKF := Lib.hid hkf
              obtain ⟨N, hN⟩ : ∃ N, (frontB T ss).length = N := ⟨_, rfl⟩
              rw [hN] at HRF HKF hq0
              clear hrf hkf hN HS HST HRT
              go_wp2_with fail
              go_ret2
              exact ⟨HK4.out.trans HKF.out, .inr (.inr ⟨HR.out, HALL.out, f, At, Ab, A2, ct, cb, c2, j, N, m, rfl, HRF.out⟩)⟩
end Go.Proofs.YtlaionhlejmjdaaGreatDoor
namespace Go.Proofs.YtlaionhlejmjdaaGreatDoor
open Go.RowKit

set_option maxRecDepth 100000 in
set_option maxHeartbeats 4000000 in
theorem ftext_out (i : Int) (n lo hi lo' hi' f p : Nat) (S : List Nat) (T : CT) (sg : List Nat) (ls : List Int) (ss : List ByteArray) (w : World) (h : Fro w lo hi lo' hi' S f p T sg ls ss) (hn : ss.length = n) (hio : i < 0 ∨ (n : Int) ≤ i) :
    Calls Tryz.prog 24 #[.pointer (some ⟨f, 0, none⟩), .int .i64 i] w fun e w' => e = .returned (.tuple #[.string ⟨#[]⟩, .bool false]) ∧ FroP w w' S lo hi lo' hi' f p T sg ls ss := by
  have hnewB := h.new (o := w.heap.size + 1) (by omega)
  have HF := Lib.hid h
  have HN := Lib.hid hn
  have HNB := Lib.hid hnewB
  obtain ⟨w0, hw0⟩ : ∃ w0, w0 = (w.alloc (.cells #[.int .i64 i] 3)).alloc (.cells #[.string ⟨#[]⟩] 9) := ⟨_, rfl⟩
  obtain ⟨ii, hii⟩ : ∃ ii, ii = w.heap.size := ⟨_, rfl⟩
  have hk0 : Kp [] w w0 := by rw [hw0]; exact ((Kp.refl [] w).alloc _).alloc _
  have hbi : Blk w0 ii 3 [.int .i64 i] := by
    rw [hw0, hii]
    exact (Blk.new w 3 [.int .i64 i]).kp0 ((Kp.refl [] _).alloc _)
  have hbo : Blk w0 (ii + 1) 9 [.string ⟨#[]⟩] := by
    rw [hw0, hii]
    have := Blk.new (w.alloc (.cells #[.int .i64 i] 3)) 9 [.string ⟨#[]⟩]
    simpa using this
  have hci : w0.cell? ⟨ii, 0, none⟩ = some (.int .i64 i) := by rw [hbi.cell]; rfl
  rw [← hii] at hnewB HNB
  have HBO := Lib.hid hbo
  have HK0 := Lib.hid hk0
  have HII := Lib.hid hii
  have HW0 := Lib.hid hw0
  have hsz := Lib.hid (show w.heap.size ≤ ii + 1 by omega)
  clear h hn hnewB hw0 hii hk0 hbi hbo
  by_cases hi0 : i < 0
  · have hid : decide (i < 0) = true := by simpa using hi0
    go_enter Tryz.func24, Tryz.ntmps24
    go_wp2_with fail
    rw [← HW0.out, ← HII.out]
    go_quiet (fail)
    obtain ⟨w1, hw1⟩ : ∃ w1, w1 = w0.drewN nq := ⟨_, rfl⟩
    rw [← hw1]
    have HK1 := Lib.hid (show Kp [] w w1 from by rw [hw1]; exact HK0.out.drewN _)
    have HB1 := Lib.hid (show Blk w1 (ii + 1) 9 [.string ⟨#[]⟩] from HBO.out.kp0 (by rw [hw1]; exact (Kp.refl _ _).drewN _))
    clear hw1 hci
    have HEND := Lib.hid (show FroP w (w1.setCell ⟨ii + 1, 0, none⟩ (.string ⟨#[]⟩)) S lo hi lo' hi' f p T sg ls ss from by
      have hks : Kp [ii + 1] w1 (w1.setCell ⟨ii + 1, 0, none⟩ (.string ⟨#[]⟩)) := (Kp.refl _ _).setCell (.inl (by simp)) _
      have hk : Kp [] w (w1.setCell ⟨ii + 1, 0, none⟩ (.string ⟨#[]⟩)) := HK1.out.trans' hks (fun x hx => .inr (by rw [List.mem_singleton.1 hx]; exact hsz.out))
      exact ⟨S, HF.out.kp0 hk, Grow.refl _ _, hk.mono (by simp)⟩)
    have hcc : w1.cell? ⟨ii + 1, 0, none⟩ = some (.string ⟨#[]⟩) := by rw [HB1.out.cell]; rfl
    have hff := HB1.out.free 0
    have hcd : (w1.setCell ⟨ii + 1, 0, none⟩ (.string ⟨#[]⟩)).cell? ⟨ii + 1, 0, none⟩ = some (.string ⟨#[]⟩) := by rw [(HB1.out.set_ 0 (.string ⟨#[]⟩)).cell]; rfl
    go_wp2_with fail
    (try simp only [Exit.inBlock, Exit.then])
    exact bodyPost_ret (v := .tuple #[.string ⟨#[]⟩, .bool false]) (results_cell_t rfl _ _ ⟨ii + 1, 0, none⟩ _ _ rfl rfl hcd (agg_str _)) rfl ⟨rfl, HEND.out⟩
  · obtain ⟨k, rfl⟩ : ∃ k : Nat, i = (k : Int) := ⟨i.toNat, by omega⟩
    have hkd1 : decide ((k : Int) < 0) = false := decide_eq_false (by omega)
    have hkd2 : decide ((n : Int) ≤ (k : Int)) = true := by simp; omega
    have hkd3 : decide (n ≤ k) = true := by simp; omega
    go_enter Tryz.func24, Tryz.ntmps24
    go_wp2_with fail
    rw [← HW0.out, ← HII.out]
    go_region_held3 (fun w' => w'.cell? ⟨ii, 0, none⟩ = some (.int .i64 (k : Int))) (go_keep)
      (first
        | (go_at_call 21
           refine (flen_any n _ (HF.out.fr.kp0 (HK0.out.drew)) HN.out).mono ?_
           rintro e w1 ⟨rfl, rfl⟩))
    obtain ⟨w1, hw1⟩ : ∃ w1, w1 = w0.drew := ⟨_, rfl⟩
    rw [← hw1]
    have HK1 := Lib.hid (show Kp [] w w1 from by rw [hw1]; exact HK0.out.drew)
    have HB1 := Lib.hid (show Blk w1 (ii + 1) 9 [.string ⟨#[]⟩] from by rw [hw1]; exact HBO.out.drew)
    clear hw1
    have HEND := Lib.hid (show FroP w (w1.setCell ⟨ii + 1, 0, none⟩ (.string ⟨#[]⟩)) S lo hi lo' hi' f p T sg ls ss from by
      have hks : Kp [ii + 1] w1 (w1.setCell ⟨ii + 1, 0, none⟩ (.string ⟨#[]⟩)) := (Kp.refl _ _).setCell (.inl (by simp)) _
      have hk : Kp [] w (w1.setCell ⟨ii + 1, 0, none⟩ (.string ⟨#[]⟩)) := HK1.out.trans' hks (fun x hx => .inr (by rw [List.mem_singleton.1 hx]; exact hsz.out))
      exact ⟨S, HF.out.kp0 hk, Grow.refl _ _, hk.mono (by simp)⟩)
    have hcc : w1.cell? ⟨ii + 1, 0, none⟩ = some (.string ⟨#[]⟩) := by rw [HB1.out.cell]; rfl
    have hff := HB1.out.free 0
    have hcd : (w1.setCell ⟨ii + 1, 0, none⟩ (.string ⟨#[]⟩)).cell? ⟨ii + 1, 0, none⟩ = some (.string ⟨#[]⟩) := by rw [(HB1.out.set_ 0 (.string ⟨#[]⟩)).cell]; rfl
    go_wp2_with fail
    (try simp only [Exit.inBlock, Exit.then])
    exact bodyPost_ret (v := .tuple #[.string ⟨#[]⟩, .bool false]) (results_cell_t rfl _ _ ⟨ii + 1, 0, none⟩ _ _ rfl rfl hcd (agg_str _)) rfl ⟨rfl, HEND.out⟩
theorem ftext_all (i : Int) (n lo hi lo' hi' f p : Nat) (S : List Nat) (T : CT) (sg : List Nat) (ls : List Int) (ss : List ByteArray) (w : World) (h : Fro w lo hi lo' hi' S f p T sg ls ss) (hn : ss.length = n) (hn9 : n ≤ 1000000) :
    Calls Tryz.prog 24 #[.pointer (some ⟨f, 0, none⟩), .int .i64 i] w fun e w' => e = .returned (textV ss i) ∧ FroP w w' S lo hi lo' hi' f p T sg ls ss := by
  by_cases h1 : i < 0 ∨ (n : Int) ≤ i
  · rw [textV_none (by rw [hn]; exact h1)]
    exact ftext_out i n lo hi lo' hi' f p S T sg ls ss w h hn h1
  · obtain ⟨k, rfl⟩ : ∃ k : Nat, i = (k : Int) := ⟨i.toNat, by omega⟩
    have hk : ss[k]? = some ss[k] := List.getElem?_eq_getElem (by omega)
    rw [textV_some (by omega) (show ss[((k : Int)).toNat]? = some ss[k] from hk)]
    exact ftext_in k n lo hi lo' hi' f p S T sg ls ss _ w h hn hn9 hk
theorem textV_form (ss : List ByteArray) (i : Int) : ∃ a b, textV ss i = .tuple #[.string a, .bool b] := by
  unfold textV
  split
  · exact ⟨_, _, rfl⟩
  · exact ⟨_, _, rfl⟩
end Go.Proofs.YtlaionhlejmjdaaGreatDoor
namespace Go.Proofs.YtlaionhlejmjdaaGreatDoor
open Go.RowKit

theorem natV_int (sg : List Nat) : natV sg = (sg.map fun (x : Nat) => (x : Int)).map (.int .i64) := by unfold natV; rw [List.map_map]; rfl
theorem vget_f {S : List Nat} {p : Nat} {bs : List Bool} {c : Bool} {w : World} (i : Int) (h : VecM w S p bs c) {b : Bool} (hb : getB bs i = b) (n : Nat) :
    Calls Tryz.prog 47 #[.pointer (some ⟨p, 0, none⟩), .int .i64 i] (w.drewN n) fun e w' => e = .returned (.bool b) ∧ w.drewN n = w' := by
  refine (vget_any S p i bs c (w.drewN n) (h.kp0 (((Dr.refl w).drewN n).kp []))).mono fun e w' hh => ?_
  rw [hb] at hh
  exact hh
theorem vlen_f {S : List Nat} {p N : Nat} {bs : List Bool} {c : Bool} {w : World} (h : VecM w S p bs c) (hN : bs.length = N) (n : Nat) :
    Calls Tryz.prog 23 #[.pointer (some ⟨p, 0, none⟩)] (w.drewN n) fun e w' => e = .returned (.int .i64 (N : Int)) ∧ w.drewN n = w' :=
  vlen_any S p N bs c (w.drewN n) (h.kp0 (((Dr.refl w).drewN n).kp [])) hN
set_option maxRecDepth 100000 in
set_option maxHeartbeats 4000000 in
theorem same12_any (i : Int) (s : ByteArray) (n N m lo hi lo' hi' rlo rhi f r p ct cb cs : Nat) (At Ab As : Option Addr) (S : List Nat) (T : CT) (sg : List Nat) (ls : List Int) (ss : List ByteArray) (w : World) (h : Fro w lo hi lo' hi' S f p T sg ls ss) (h' : RfM w rlo rhi r T ss At Ab As ct cb cs n N m) (hr : riseT ss = true) (hn9 : n ≤ 1000000) (hS : ∀ g ∈ S, g < rlo ∨ rhi ≤ g) (hrw : rhi ≤ w.heap.size) :
    Calls Tryz.prog 16 #[.pointer (some ⟨f, 0, none⟩), .pointer (some ⟨r, 0, none⟩), .int .i64 i, .string s] w fun e w' => e = .returned (.bool true) ∧ Kp S w w' := by
  have HN := Lib.hid h'.nt
  have HNB := Lib.hid h'.nb
  have HNS := Lib.hid h'.ns
  have hN16 : N ≤ 16777216 := by
    obtain ⟨_, _, _, _, _, _, _, hv, _⟩ := h.fr
    rw [← HNB.out]
    exact hv.tail.2.2.2
  have hmb : m ≤ 1000000 := by rw [← HNS.out, starts_len, HN.out]; omega
  have HS := Lib.hid hS
  have HF := Lib.hid h
  have HR := Lib.hid h'
  have HRI := Lib.hid hr
  clear h h' hr hS
  obtain ⟨a, b, hab⟩ := textV_form ss i
  have HAB := Lib.hid hab
  clear hab
  go_enter Tryz.func16, Tryz.ntmps16
  go_wp2_with fail
  refine (ftext_all i n lo hi lo' hi' f p S T sg ls ss w HF.out HN.out hn9).mono ?_
  rw [HAB.out]
  rintro e w1 ⟨rfl, S1, hf1, hg1, hk1⟩
  have HF1 := Lib.hid hf1
  have HK := Lib.hid hk1
  have HG := Lib.hid hg1
  replace HR := Lib.hid (HR.out.kp hk1 HS.out)
  clear hf1 hg1 hk1
  go_wp2_with fail
  refine (rtext_any i w1 HR.out).mono ?_
  rw [HAB.out]
  rintro e w1' ⟨rfl, rfl⟩
  have HS1 := Lib.hid (show ∀ g ∈ S1, g < rlo ∨ rhi ≤ g from fun g hg => (HG.out g hg).elim (HS.out g) (fun h => .inr (Nat.le_trans hrw h)))
  go_wp2_with fail
  refine (ffind_any n lo hi lo' hi' f p S1 T sg ls ss s w1 HF1.out HN.out hn9 HRI.out).mono ?_
  obtain ⟨v, hv⟩ : ∃ v, findN ss s = v := ⟨_, rfl⟩
  obtain ⟨F, hF⟩ : ∃ F, isF ss s = F := ⟨_, rfl⟩
  have HVF := Lib.hid (show findN ss s = v ∧ isF ss s = F from ⟨hv, hF⟩)
  have hvn : v ≤ n := by rw [← hv, ← HN.out]; exact findN_le ss s
  rw [hv, hF]
  clear hv hF
  rintro e w2 ⟨rfl, S2, hf2, hg2, hk2⟩
  have HF2 := Lib.hid hf2
  have HG2 := Lib.hid (show Grow w S S2 from fun g hg => (hg2 g hg).elim (HG.out g) (fun h => .inr (Nat.le_trans HK.out.size h)))
  have HK2 := Lib.hid (HK.out.trans' hk2 (fun x hx => HG.out x hx))
  replace HR := Lib.hid (HR.out.kp hk2 HS1.out)
  clear hf2 hg2 hk2
  go_wp2_with fail
  refine (rfind_any s w2 HR.out (by omega)).mono ?_
  rw [HVF.out.1, HVF.out.2]
  rintro e w3 ⟨rfl, hd3⟩
  replace HF2 := Lib.hid (HF2.out.kp0 (hd3.kp []))
  replace HR := Lib.hid (HR.out.kp0 (hd3.kp []))
  replace HK2 := Lib.hid (HK2.out.trans (hd3.kp S))
  clear hd3 HF1 HK HG HS1 HF
  obtain ⟨hc0, hc1, hc2⟩ := HR.out.cells
  go_wp2_with fail
  go_region_held3 (fun w' => w'.cell? ⟨r, 0, none⟩ = some (.slice At n ct) ∧ w'.cell? ⟨r, 2, none⟩ = some (.slice As m cs)) (go_keep)
    (first
      | (go_at_call 21
         refine (flen_any n _ (HF2.out.fr.kp0 ((Kp.refl [] w3).drew)) HN.out).mono ?_
         rintro e w4 ⟨rfl, rfl⟩)
      | (go_at_call 46
         refine (fstarts_any _ (HF2.out.fr.kp0 ((Kp.refl [] w3).drew)) (by rw [HN.out]; exact hn9)).mono ?_
         rintro e w4 ⟨A4, m4, c4, hm4, rfl, hown4, hk4⟩
         obtain rfl : m4 = m := by rw [hm4, HNS.out]
         have HA4 := Lib.hid (own_rd hown4)
         have HK4 := Lib.hid (((Kp.refl [] w3).drew).trans hk4)
         have hc04 := HK4.out.cell hc0 (by simp)
         have hc24 := HK4.out.cell hc2 (by simp)
         clear hm4 hown4 hk4 hc0 hc2)
      | (go_at_call 45
         refine (sameI A4 As m4 m4 c4 cs _ _ _ _ w4 (by have h9 := HA4.out; rw [natV_int] at h9; exact h9) (by have h9 := (HR.out.kp0 HK4.out).rs; rw [natV_int] at h9; exact h9) (by rw [List.length_map, HNS.out]) (by rw [List.length_map, HNS.out]) (by omega) (by omega)).mono ?_
         rw [decide_eq_true rfl]
         rintro e w5 ⟨rfl, hd5⟩
         have HK5 := Lib.hid (HK4.out.trans (hd5.kp []))
         have hc05 := (hd5.kp []).cell hc04 (by simp)
         have hc25 := (hd5.kp []).cell hc24 (by simp)
         clear hd5 hc04 hc24))
  replace HF2 := Lib.hid (HF2.out.kp0 HK5.out)
  replace HR := Lib.hid (HR.out.kp0 HK5.out)
  replace HK2 := Lib.hid (HK2.out.trans (HK5.out.mono (by simp)))
  clear hc05 hc25 hc1 HA4 HK4 HK5
  go_wp2_with fail
  refine (fbits_any w5 HF2.out.fr).mono ?_
  rintro e w6 ⟨⟨V, q, rfl, hv6, hV6⟩, hk6⟩
  have HV := Lib.hid hv6
  replace HF2 := Lib.hid (HF2.out.kp0 hk6)
  replace HR := Lib.hid (HR.out.kp0 hk6)
  replace HK2 := Lib.hid (HK2.out.trans (hk6.mono (by simp)))
  clear hv6 hV6 hk6
  have HLQ := Lib.hid (vlen_f HV.out HNB.out)
  have hc1 : w6.cell? ⟨r, 1, none⟩ = some (.slice Ab N cb) := HR.out.cells.2.1
  go_wp2_with fail
  go_quiet ((go_at_call 23; exact quiet_eq (HLQ.out _)))
  obtain ⟨w7, hw7⟩ : ∃ w7, w7 = w6.drewN nq := ⟨_, rfl⟩
  rw [← hw7]
  have hk7 : Kp [] w6 w7 := hw7 ▸ (Kp.refl _ _).drewN nq
  replace HV := Lib.hid (HV.out.kp0 hk7)
  replace HF2 := Lib.hid (HF2.out.kp0 hk7)
  replace HR := Lib.hid (HR.out.kp0 hk7)
  replace HK2 := Lib.hid (HK2.out.trans (hk7.mono (by simp)))
  clear hk7 hw7 hc1 HLQ
  go_wp2_with fail
  go_loopw [18] (fun x wr => ∃ k : Nat, x = .int .i64 (k : Int) ∧ k ≤ N ∧ Hid (Kp [] w7 wr)) (fun x _ => N - (intOf x).toNat)
  case atStart => exact ⟨0, rfl, by omega, Lib.hid (Kp.refl _ _)⟩
  case round =>
    obtain ⟨k, rfl, hk, HKR⟩ := hrel
    have hc1 : wr.cell? ⟨r, 1, none⟩ = some (.slice Ab N cb) := HKR.out.cell HR.out.cells.2.1 (by simp)
    by_cases hlt : k < N
    · obtain ⟨b2, ad, hb, rfl, _, hcb⟩ := (HR.out.rb.kp0 HKR.out).bl (k := k) (by rw [HNB.out]; exact hlt)
      have HGT := Lib.hid (show getB (frontB T ss) (k : Int) = b2 by unfold getB; rw [if_neg (by omega), Int.toNat_natCast, List.getD_eq_getElem?_getD, hb]; rfl)
      have hb0 : (0 : Int) ≤ (k : Int) := by omega
      have hb1 : (k : Int) < (N : Int) := by omega
      have HGQ := Lib.hid (vget_f (k : Int) (HV.out.kp0 HKR.out) HGT.out)
      clear hb
      go_wp2_with fail
      go_quiet ((go_at_call 47; exact quiet_eq (HGQ.out _)))
      go_wp2_with fail
      exact ⟨⟨k + 1, by go_num, by omega, Lib.hid (HKR.out.trans ((Dr.refl _).drewN _ |>.kp []))⟩, by simp [intOf]; omega⟩
    · obtain rfl : k = N := by omega
      replace HF2 := Lib.hid (HF2.out.kp0 HKR.out)
      replace HR := Lib.hid (HR.out.kp0 HKR.out)
      replace HK2 := Lib.hid (HK2.out.trans (HKR.out.mono (by simp)))
      clear HKR hk hlt HV
      obtain ⟨w8, hw8⟩ : ∃ w8, w8 = wr := ⟨_, rfl⟩
      rw [← hw8] at HF2 HR HK2 hc1 ⊢
      clear hw8
      go_wp2_with fail
      clear hc1
      go_loopw [19] (fun x wr => ∃ (k3 : Nat) (S3 : List Nat), x = .int .i64 (k3 : Int) ∧ k3 ≤ n ∧ Hid (Fro wr lo hi lo' hi' S3 f p T sg ls ss) ∧ Hid (RfM wr rlo rhi r T ss At Ab As ct cb cs n k m4) ∧ Hid (Grow w S S3) ∧ Hid (Kp S w wr)) (fun x _ => n - (intOf x).toNat)
      case atStart => exact ⟨0, S2, rfl, by omega, HF2, HR, HG2, HK2⟩
      case round =>
        clear HF2 HR HG2 HK2
        obtain ⟨k2, S3, rfl, hk, HF2, HR, HG2, HK2⟩ := hrel
        have hc0 : wr.cell? ⟨r, 0, none⟩ = some (.slice At n ct) := HR.out.cells.1
        by_cases hlt : k2 < n
        · have hk2 : (k2 : Int) < (n : Int) := by omega
          obtain ⟨t, ht⟩ : ∃ t, ss[k2]? = some t := ⟨_, List.getElem?_eq_getElem (by rw [HN.out]; exact hlt)⟩
          have HTK := Lib.hid ht
          clear ht
          go_wp2_with fail
          refine (ftext_in k2 n lo hi lo' hi' f p S3 T sg ls ss t wr HF2.out HN.out hn9 HTK.out).mono ?_
          rintro e w9 ⟨rfl, S4, hf4, hg4, hk4⟩
          have HF4 := Lib.hid hf4
          have HG4 := Lib.hid (show Grow w S S4 from fun g hg => (hg4 g hg).elim (HG2.out g) (fun h => .inr (Nat.le_trans HK2.out.size h)))
          have HR4 := Lib.hid (HR.out.kp hk4 (fun g hg => (HG2.out g hg).elim (HS.out g) (fun h => .inr (Nat.le_trans hrw h))))
          have HK4 := Lib.hid (HK2.out.trans' hk4 (fun x hx => HG2.out x hx))
          clear hf4 hg4 hk4 hc0 HF2 HR HG2 HK2
          have hc0 : w9.cell? ⟨r, 0, none⟩ = some (.slice At n ct) := HR4.out.cells.1
          obtain ⟨t', ad, ht', rfl, _, hct⟩ := HR4.out.rt.str (k := k2) (by rw [HN.out]; exact hlt)
          rw [HTK.out] at ht'
          injection ht' with ht'
          subst ht'
          have hb0 : (0 : Int) ≤ (k2 : Int) := by omega
          go_wp2_with fail
          exact ⟨⟨k2 + 1, S4, by go_num, by omega, HF4, HR4, HG4, HK4⟩, by simp [intOf]; omega⟩
        · obtain rfl : k2 = n := by omega
          go_wp2_with fail
          go_ret
          exact ⟨rfl, HK2.out⟩
end Go.Proofs.YtlaionhlejmjdaaGreatDoor
