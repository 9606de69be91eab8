/-
  THE LAW OF XRegF OVER ANY RELATION OF WORLDS.
  CONDITIONS: those of the check 'relOk', which the kernel reckons.
-/
import Derived.Test.YtddmioaeehgkbaaDoorRegF
namespace Go.Proofs.YtddmioaeehgkbaaDoor.RG
open Go.RowKit Go.Proofs.YtddmioaeehgkbaaDoor

/-- A relation of worlds that a region may lead along. -/
class Rel where
  R : World → World → Prop
  refl : ∀ w, R w w
  trans : ∀ {a b c}, R a b → R b c → R a c
  drew : ∀ w, R w w.drew

section
variable [Rel] (P : Program) (l : List Oper) (Φ : Nat → Value → World → Prop)
/-- What is to be shown of one operation, the pure ones ahead of it walked anew. -/
def relStep (o : Oper) (d : Nat) (isImp : Bool) (w' : World) (a : Act) : Prop :=
  if isImp then ∀ K : Act → World → Prop, (∀ v w'', Φ d v w'' → Rel.R w' w'' → K (a.put o.dst v) w'') → (if Region.wanted o (yielded l.toArray a.tmps) then o.wp P a w' K (fun _ _ _ => False) else Φ d undef w')
  else (if Region.wanted o (yielded l.toArray a.tmps) then ∃ v, ∀ w, (execOp a.eval o).run P w = .ok (.value v) w else True)
def relAll (imp : List Nat) (w0 : World) (fr : (Nat → Value) → Act) : List Oper → List (List Bool × List Nat) → Prop
  | o :: r, (m, ds) :: info =>
    (∀ (x : Nat → Value) (w' : World), Rel.R w0 w' → depAll Φ x w' ds → wpSel P l.toArray (relStep P l Φ o (o.dst.getD 0) (imp.contains (o.dst.getD 0)) w') l m (fr x)) ∧ relAll imp w0 fr r info
  | _, _ => True
end

section
variable [Rel] {P : Program} {l : List Oper} {Φ : Nat → Value → World → Prop}
theorem relAll_get {imp : List Nat} {w0 : World} {fr : (Nat → Value) → Act} : ∀ {r : List Oper} {info : List (List Bool × List Nat)}, relAll P l Φ imp w0 fr r info → ∀ (i : Nat) (o : Oper) (m : List Bool) (ds : List Nat), r[i]? = some o → info[i]? = some (m, ds) →
    ∀ (x : Nat → Value) (w' : World), Rel.R w0 w' → depAll Φ x w' ds → wpSel P l.toArray (relStep P l Φ o (o.dst.getD 0) (imp.contains (o.dst.getD 0)) w') l m (fr x)
  | o0 :: r, (m0, ds0) :: info, h, 0, o, m, ds, ho, hi => by
    simp only [List.getElem?_cons_zero, Option.some.injEq, Prod.mk.injEq] at ho hi
    obtain ⟨rfl, rfl⟩ := hi
    subst ho
    exact h.1
  | o0 :: r, (m0, ds0) :: info, h, i + 1, o, m, ds, ho, hi => relAll_get h.2 i o m ds (by simpa using ho) (by simpa using hi)
  | [], _, _, i, o, m, ds, ho, _ => by simp at ho
  | _ :: _, [], _, i, o, m, ds, _, hi => by simp at hi

omit [Rel] in
theorem put_same {a : Act} {d : Nat} (h : d < a.tmps.size) : a.put (some d) (a.tmps.getD d undef) = a := by
  obtain ⟨tmps, defers⟩ := a
  simp only [Act.put, Act.mk.injEq, and_true]
  apply Array.ext_getElem?
  intro i
  rw [Array.getElem?_setIfInBounds]
  split
  · rename_i hi
    subst hi
    simp at h
    simp [h]
  · rfl

omit [Rel] in
theorem sel_same {ops : Array Oper} {Qf : Act → Prop} {a : Act} : ∀ {r : List Oper} {m : List Bool}, m.length = r.length →
    (∀ (j : Nat) (o : Oper), r[j]? = some o → m.getD j false = true → ∃ d, o.dst = some d ∧ d < a.tmps.size ∧ Yields P ops o (a.tmps.getD d undef) a) → wpSel P ops Qf r m a → Qf a
  | [], [], _, _, h => h
  | o :: r, false :: m, hl, hy, h => sel_same (r := r) (m := m) (by simpa using hl) (fun j o' ho hm => hy (j + 1) o' (by simpa using ho) (by simpa using hm)) h
  | o :: r, true :: m, hl, hy, h => by
    obtain ⟨d, hd, hlt, hyd⟩ := hy 0 o rfl rfl
    have rest : wpSel P ops Qf r m a := by
      simp only [wpSel] at h
      rcases hyd with ⟨hw, hv⟩ | ⟨hw, hv⟩
      · rw [if_pos hw] at h
        obtain ⟨v, hv', h⟩ := h
        have := (hv' default).symm.trans (hv default)
        simp only [Result.ok.injEq, Next.value.injEq, and_true] at this
        rw [this, hd, put_same hlt] at h
        exact h
      · rw [if_neg (by rw [hw]; decide), hd, ← hv, put_same hlt] at h
        exact h
    exact sel_same (r := r) (m := m) (by simpa using hl) (fun j o' ho hm => hy (j + 1) o' (by simpa using ho) (by simpa using hm)) rest
  | [], _ :: _, hl, _, _ => by simp at hl
  | _ :: _, [], hl, _, _ => by simp at hl

omit [Rel] in
theorem wp_no_exit {o : Oper} {a : Act} {w : World} {K : Act → World → Prop} {Q : Exit → Act → World → Prop} (h : o.wp P a w K (fun _ _ _ => False)) : o.wp P a w K Q := by
  unfold Oper.wp at *
  generalize (execOp a.eval o).run P w = r at *
  cases r with
  | ok n w' =>
    cases n <;> simp only [Oper.upon] at *
    case value => exact h
    case skip => exact h
    case defer => exact h
    case row => exact h
    case enter f args =>
      refine Calls.mono h fun e w'' he => ?_
      cases e with
      | returned v => exact he
      | panicked c => exact he.elim
      | outgrown =>
        obtain ⟨_, _, h⟩ := he
        exact h.elim
  | halt x w' => cases x <;> simp only [Oper.upon] at * 

/-- The state in the midst of the region. -/
structure RelInv [Rel] (P : Program) (l : List Oper) (Φ : Nat → Value → World → Prop) (n : Nat) (imp : List Nat) (info : List (List Bool × List Nat)) (a0 : Act) (w0 : World) (fuel : Nat) (listed : Array Bool) (a : Act) (w : World) : Prop where
  lsize : listed.size = l.length
  left : ∃ U : List Nat, U.Nodup ∧ (∀ j, j ∈ U ↔ j < l.length ∧ listed.getD j true = false) ∧ U.length = fuel
  size : a.tmps.size = n
  defers : a.defers = a0.defers
  others : ∀ t, (∀ o ∈ l, o.dst ≠ some t) → a.tmps[t]? = a0.tmps[t]?
  kp : Rel.R w0 w
  done : ∀ (j : Nat) (o : Oper) (d : Nat), l[j]? = some o → o.dst = some d → listed.getD j false = true → if imp.contains d then Φ d (a.tmps.getD d undef) w else Yields P l.toArray o (a.tmps.getD d undef) a
  closed : ∀ k j, j < l.length → listed.getD k false = true → ahead l info k j = true → listed.getD j false = true
omit [Rel] in
theorem fr_self {a a0 : Act} {n : Nat} {ds : List Nat} (hs : a.tmps.size = n) (h0 : a0.tmps.size = n) (hd : a.defers = a0.defers) (ho : ∀ t, t ∉ ds → a.tmps[t]? = a0.tmps[t]?) :
    fillR (fun t => a.tmps.getD t undef) ds a0 = a := by
  obtain ⟨tmps, defers⟩ := a
  simp only at hs hd ho
  subst hd
  simp only [fillR, Act.mk.injEq, and_true]
  apply Array.ext_getElem?
  intro i
  simp only [List.getElem?_toArray, List.getElem?_mapIdx, Array.getElem?_toList]
  by_cases hi : i < n
  · rw [Array.getElem?_eq_getElem (by omega), Option.map_some]
    by_cases hc : ds.contains i = true
    · rw [if_pos hc, Array.getElem?_eq_getElem (by omega)]
      simp [Array.getElem?_eq_getElem (show i < tmps.size by omega)]
    · rw [if_neg hc, ho i (fun hm => hc (List.contains_iff_mem.2 hm)), Array.getElem?_eq_getElem (by omega)]
  · rw [Array.getElem?_eq_none (by omega), Array.getElem?_eq_none (by omega)]; rfl

theorem rel_sound {n : Nat} {imp ds : List Nat} {info : List (List Bool × List Nat)} {a0 : Act} {w0 : World} {fr : (Nat → Value) → Act} {Q : Exit → Act → World → Prop} {fm : List Bool}
    (sp : RelSpec l n imp info) (h0 : a0.tmps.size = n) (hds : ∀ t, t ∉ ds → ∀ o ∈ l, o.dst ≠ some t) (himp : ∀ s ∈ imp, ∃ (j : Nat) (o : Oper), l[j]? = some o ∧ o.dst = some s) (hfr : ∀ x, fillR x ds a0 = fr x)
    (stable : ∀ d v w1 w2, Φ d v w1 → Rel.R w1 w2 → Φ d v w2) (steps : relAll P l Φ imp w0 fr l info)
    (hfm : fm.length = l.length ∧ ∀ (j : Nat) (o : Oper) (d : Nat), l[j]? = some o → o.dst = some d → fm.getD j false = true → d ∉ imp)
    (fin : ∀ (x : Nat → Value) (w' : World), Rel.R w0 w' → depAll Φ x w' imp → wpSel P l.toArray (fun a => Q .normal a w') l fm (fr x)) :
    ∀ (fuel : Nat) (listed : Array Bool) (a : Act) (w : World), RelInv P l Φ n imp info a0 w0 fuel listed a w → wpAny P .any l.toArray Q fuel listed a w := by
  have other : ∀ {a : Act}, (∀ t, (∀ o ∈ l, o.dst ≠ some t) → a.tmps[t]? = a0.tmps[t]?) → ∀ t, t ∉ ds → a.tmps[t]? = a0.tmps[t]? := fun h t ht => h t (hds t ht)
  have finish : ∀ {fuel : Nat} {listed : Array Bool} {a : Act} {w : World}, RelInv P l Φ n imp info a0 w0 fuel listed a w → Region.ready .any l.toArray listed = [] → Q .normal a w := by
    intro fuel listed a w I hr
    have alll : ∀ j, j < l.length → listed.getD j false = true := by
      intro j
      induction j using Nat.strongRecOn with
      | _ j ih =>
        intro hj
        by_cases hlj : listed.getD j false = true
        · exact hlj
        · exfalso
          have hmem : j ∈ Region.ready .any l.toArray listed := by
            rw [mem_ready]
            refine ⟨?_, l[j], by simp [List.getElem?_eq_getElem hj], fun e he _ => ?_⟩
            · have : j < listed.size := by rw [I.lsize]; exact hj
              simp [Array.getElem?_eq_getElem this] at hlj ⊢
              exact hlj
            · have := sp.edge j l[j] (List.getElem?_eq_getElem hj) e he
              exact ih e.on this (by omega)
          rw [hr] at hmem
          cases hmem
    have key := fin (fun t => a.tmps.getD t undef) w I.kp (depAll_of fun s hs => by
      obtain ⟨j, o, hj, hd⟩ := himp s hs
      have := I.done j o s hj hd (alll j (List.getElem?_eq_some_iff.1 hj).1)
      rw [if_pos (List.contains_iff_mem.2 hs)] at this
      exact this)
    rw [← hfr, fr_self I.size h0 I.defers (other I.others)] at key
    refine sel_same hfm.1 (fun j o hj hm => ?_) key
    obtain ⟨d, hd, hlt, _⟩ := sp.dst j o hj
    refine ⟨d, hd, by rw [I.size]; exact hlt, ?_⟩
    have := I.done j o d hj hd (alll j (List.getElem?_eq_some_iff.1 hj).1)
    rwa [if_neg (fun hc => hfm.2 j o d hj hd hm (List.contains_iff_mem.1 hc))] at this
  intro fuel
  induction fuel with
  | zero =>
    intro listed a w I
    have hr : Region.ready .any l.toArray listed = [] := by
      obtain ⟨U, _, hU, hlen⟩ := I.left
      apply List.eq_nil_iff_forall_not_mem.2
      intro j hj
      obtain ⟨h1, o, ho, _⟩ := mem_ready.1 hj
      have : j ∈ U := (hU j).2 ⟨by have := (Array.getElem?_eq_some_iff.1 ho).1; simpa using this, h1⟩
      rw [List.eq_nil_of_length_eq_zero hlen] at this
      cases this
    exact ⟨hr, finish I hr⟩
  | succ fuel ih =>
    intro listed a w I
    refine ⟨fun hr => finish I hr, fun i hi => ?_⟩
    obtain ⟨hun, o, ho, hdeps⟩ := mem_ready.1 hi
    have ho' : l[i]? = some o := by simpa using ho
    have hil : i < l.length := (List.getElem?_eq_some_iff.1 ho').1
    have hunf : listed.getD i false = false := by
      have : i < listed.size := by rw [I.lsize]; exact hil
      simp [Array.getElem?_eq_getElem this] at hun ⊢
      exact hun
    obtain ⟨d, hd, hdn, huniq⟩ := sp.dst i o ho'
    have hdir : ∀ k ∈ direct l i, listed.getD k false = true := by
      intro k hk
      simp only [direct, ho', List.mem_map, List.mem_filter] at hk
      obtain ⟨e, ⟨he, hb⟩, rfl⟩ := hk
      exact hdeps e (by simpa using he) hb
    have hah : ∀ j, j < l.length → ahead l info i j = true → listed.getD j false = true := by
      intro j hj ha
      rcases sp.close i o ho' j l[j] (List.getElem?_eq_getElem hj) ha with h1 | ⟨k, hk, h1⟩
      · exact hdir j h1
      · exact I.closed k j hj (hdir k hk) h1
    obtain ⟨m, es, hinfo⟩ : ∃ m es, info[i]? = some (m, es) := by
      have : i < info.length := by rw [sp.infoLen]; exact hil
      exact ⟨_, _, List.getElem?_eq_getElem this⟩
    obtain ⟨hml, hmask, hes⟩ := sp.mask i m es hinfo
    have step := relAll_get steps i o m es ho' hinfo (fun t => a.tmps.getD t undef) w I.kp (depAll_of fun s hs => by
      obtain ⟨j, oj, hj, hdj⟩ := himp s (hes s hs)
      have hjl := (List.getElem?_eq_some_iff.1 hj).1
      have ha : ahead l info i j = true := by simp [ahead, hinfo, dstOf, hj, hdj, hs]
      have := I.done j oj s hj hdj (hah j hjl ha)
      rw [if_pos (List.contains_iff_mem.2 (hes s hs))] at this
      exact this)
    rw [← hfr, fr_self I.size h0 I.defers (other I.others)] at step
    have step := sel_same hml (fun j oj hj hm => by
      obtain ⟨dj, hdj, hlt, _⟩ := sp.dst j oj hj
      refine ⟨dj, hdj, by rw [I.size]; exact hlt, ?_⟩
      have hjl := (List.getElem?_eq_some_iff.1 hj).1
      have ha : ahead l info i j = true := by simp only [ahead, hinfo]; rw [hm]; rfl
      have := I.done j oj dj hj hdj (hah j hjl ha)
      rwa [if_neg (fun hc => hmask j oj dj hj hdj hm (List.contains_iff_mem.1 hc))] at this) step
    have hself : d ∉ o.looksAt l.toArray := fun hm => (sp.looks i o ho' i o d ho' hd hm).1 rfl
    -- the state behind it
    have next : ∀ v w'', (if imp.contains d then Φ d v w'' else Yields P l.toArray o v a) → Rel.R w w'' → RelInv P l Φ n imp info a0 w0 fuel (listed.setIfInBounds i true) (a.put o.dst v) w'' := by
      intro v w'' hv hk
      rw [hd]
      have hslot : ((a.put (some d) v).tmps.getD d undef) = v := by
        have : d < a.tmps.size := by rw [I.size]; exact hdn
        simp [Act.put, this]
      have hslot' : ∀ t, t ≠ d → (a.put (some d) v).tmps[t]? = a.tmps[t]? := fun t ht => by
        simp [Act.put, Array.getElem?_setIfInBounds_ne (Ne.symm ht)]
      have hset : ∀ j, j ≠ i → ∀ b, (listed.setIfInBounds i true).getD j b = listed.getD j b := fun j hj b => getD_set_ne b (Ne.symm hj)
      have hseti : (listed.setIfInBounds i true).getD i false = true := by
        have : i < listed.size := by rw [I.lsize]; exact hil
        simp [this]
      refine ⟨by simpa using I.lsize, ?_, by simpa [Act.put] using I.size, I.defers, fun t ht => ?_, Rel.trans I.kp hk, ?_, ?_⟩
      · obtain ⟨U, hnd, hU, hlen⟩ := I.left
        have hiU : i ∈ U := (hU i).2 ⟨hil, hun⟩
        refine ⟨U.erase i, hnd.erase i, fun j => ?_, by rw [List.length_erase_of_mem hiU]; omega⟩
        rw [hnd.mem_erase_iff, hU]
        by_cases hji : j = i
        · subst hji
          have : j < listed.size := by rw [I.lsize]; exact hil
          simp [this]
        · rw [hset j hji]
          simp [hji]
      · rw [hslot' t (fun e => ht o (List.mem_of_getElem? ho') (by rw [hd, e]))]
        exact I.others t ht
      · intro j oj dj hj hdj hlj
        by_cases hji : j = i
        · subst hji
          rw [ho'] at hj
          injection hj with hj
          subst hj
          rw [hd] at hdj
          injection hdj with hdj
          subst hdj
          rw [hslot]
          by_cases hc : imp.contains d = true
          · rw [if_pos hc] at hv ⊢; exact hv
          · rw [if_neg hc] at hv ⊢
            exact hv.of_same (execOp_put o (sp.noSel _ _ ho') a (some d) v (by intro e he; injection he with he; subst he; exact hself)) (wanted_put o a (some d) v (by intro e he; injection he with he; subst he; exact hself))
        · rw [hset j hji] at hlj
          have hdd : dj ≠ d := fun e => hji (huniq j oj hj (by rw [hdj, e]))
          have hdone := I.done j oj dj hj hdj hlj
          have hsl : (a.put (some d) v).tmps.getD dj undef = a.tmps.getD dj undef := by
            simp only [Array.getD_eq_getD_getElem?, hslot' dj hdd]
          rw [hsl]
          by_cases hc : imp.contains dj = true
          · rw [if_pos hc] at hdone ⊢; exact stable _ _ _ _ hdone hk
          · rw [if_neg hc] at hdone ⊢
            have hnl : d ∉ oj.looksAt l.toArray := fun hm => by
              have h1 := (sp.looks j oj hj i o d ho' hd hm).2
              have := I.closed j i hil hlj h1
              rw [hunf] at this
              cases this
            exact hdone.of_same (execOp_put oj (sp.noSel _ _ hj) a (some d) v (by intro e he; injection he with he; subst he; exact hnl)) (wanted_put oj a (some d) v (by intro e he; injection he with he; subst he; exact hnl))
      · intro k j hj hlk hak
        have hjl : listed.getD j false = true := by
          by_cases hki : k = i
          · subst hki
            exact hah j hj hak
          · rw [hset k hki] at hlk
            exact I.closed k j hj hlk hak
        by_cases hji : j = i
        · subst hji; exact hseti
        · rw [hset j hji]; exact hjl
    unfold wpOp
    simp only [ho]
    unfold relStep at step
    rw [hd] at step
    simp only [Option.getD_some] at step
    by_cases hc : imp.contains d = true
    · rw [if_pos hc] at step
      have st := step (wpAny P .any l.toArray Q fuel (listed.setIfInBounds i true)) (fun v w'' hv hk => by rw [← hd]; exact ih _ _ _ (next v w'' (by rw [if_pos hc]; exact hv) hk))
      by_cases hw : Region.wanted o (yielded l.toArray a.tmps) = true
      · rw [if_pos hw] at st
        rw [if_pos hw]
        exact .inl (wp_no_exit st)
      · rw [if_neg hw] at st
        rw [if_neg hw]
        exact ih _ _ _ (next undef w (by rw [if_pos hc]; exact st) (Rel.refl _))
    · rw [if_neg hc] at step
      by_cases hw : Region.wanted o (yielded l.toArray a.tmps) = true
      · rw [if_pos hw] at step
        obtain ⟨v, hv⟩ := step
        have hy : Yields P l.toArray o v a := .inl ⟨hw, hv⟩
        have hres := ih _ _ _ (next v w (by rw [if_neg hc]; exact hy) (Rel.refl _))
        have := Yields.wpOp (Q := Q) ho hy (K := wpAny P .any l.toArray Q fuel (listed.setIfInBounds i true)) hres
        unfold wpOp at this
        simp only [ho] at this
        exact this
      · rw [if_neg hw]
        exact ih _ _ _ (next undef w (by rw [if_neg hc]; exact .inr ⟨by simpa using hw, rfl⟩) (Rel.refl _))
end
section
variable [Rel] (P : Program) (l : List Oper) (Φ : Nat → Value → World → Prop)
/-- What is to be shown of one operation. -/
def stepF (o : Oper) (d : Nat) (w' : World) (a : Act) : Prop :=
  ∀ K : Act → World → Prop, (∀ v w'', Φ d v w'' → Rel.R w' w'' → K (a.put o.dst v) w'') → (if Region.wanted o (yielded l.toArray a.tmps) then o.wp P a w' K (fun _ _ _ => False) else Φ d undef w')
/-- What a frame holds: letters in the slots sds, the old values in all others. -/
structure Ev (x : Nat → Value) (sds : List Nat) (a0 a : Act) : Prop where
  new : ∀ t : Nat, sds.contains t = true → a.tmps[t]?.getD undef = x t
  old : ∀ t : Nat, sds.contains t = false → a.tmps[t]?.getD undef = a0.tmps[t]?.getD undef
def factAll (sds : List Nat) (a0 : Act) (w0 : World) : List Oper → List (List Nat) → Prop
  | o :: r, ds :: dss =>
    (∀ (x : Nat → Value) (w' : World) (a : Act), Rel.R w0 w' → depAll Φ x w' ds → Ev x sds a0 a → stepF P l Φ o (o.dst.getD 0) w' a) ∧ factAll sds a0 w0 r dss
  | _, _ => True
end

section
variable [Rel] {P : Program} {l : List Oper} {Φ : Nat → Value → World → Prop}
omit [Rel] in
theorem ev_fillR {a0 : Act} {n : Nat} {sds : List Nat} (x : Nat → Value) (h0 : a0.tmps.size = n) (hs : ∀ s ∈ sds, s < n) : Ev x sds a0 (fillR x sds a0) := by
  refine ⟨fun t ht => ?_, fun t ht => ?_⟩
  · have hm := List.contains_iff_mem.1 ht
    have hn : t < n := hs t hm
    simp only [fillR]
    rw [List.getElem?_toArray, List.getElem?_mapIdx, Array.getElem?_toList, Array.getElem?_eq_getElem (by omega)]
    simp [hm]
  · have hm : t ∉ sds := fun h => by rw [List.contains_iff_mem.2 h] at ht; cases ht
    simp only [fillR]
    rw [List.getElem?_toArray, List.getElem?_mapIdx, Array.getElem?_toList]
    cases a0.tmps[t]? <;> simp [hm]
omit [Rel] in
theorem wpSel_none {ops : Array Oper} {Qf : Act → Prop} {a : Act} : ∀ (r : List Oper), Qf a → wpSel P ops Qf r (List.replicate r.length false) a
  | [], h => h
  | _ :: r, h => wpSel_none r h
theorem factAll_rel {n : Nat} {sds imp : List Nat} {a0 : Act} {w0 : World} (h0 : a0.tmps.size = n) (hs : ∀ s ∈ sds, s < n) : ∀ {r : List Oper} {dss : List (List Nat)}, (∀ o ∈ r, imp.contains (o.dst.getD 0) = true) → factAll P l Φ sds a0 w0 r dss →
    relAll P l Φ imp w0 (fun x => fillR x sds a0) r (dss.map fun ds => (List.replicate l.length false, ds))
  | [], [], _, _ => trivial
  | [], _ :: _, _, _ => trivial
  | _ :: _, [], _, _ => trivial
  | o :: r, ds :: dss, hi, h => by
    refine ⟨fun x w' hk hd => wpSel_none l ?_, factAll_rel h0 hs (fun o' ho' => hi o' (by simp [ho'])) h.2⟩
    unfold relStep
    rw [if_pos (hi o (by simp))]
    exact h.1 x w' _ hk hd (ev_fillR x h0 hs)
/-- THE LAW. n: how many slots the frame has; sds: the slots that the region writes, rising; dss: of each operation the slots that it looks at. -/
theorem wp_region_facts {id : Nat} {a0 : Act} {w0 : World} {Q : Exit → Act → World → Prop} (hm : P.follows .mixedOrders = true) (n : Nat) (sds : List Nat) (dss : List (List Nat))
    (hok : relOk l n sds (dss.map fun ds => (List.replicate l.length false, ds)) = true) (hok2 : ((l.all fun o => sds.contains (o.dst.getD 0)) && (sds.all fun s => l.any fun o => o.dst == some s) && decide (sds.Pairwise (· < ·)) && (sds.all fun s => decide (s < n))) = true)
    (h0 : a0.tmps.size = n) (Φ : Nat → Value → World → Prop) (stable : ∀ d v w1 w2, Φ d v w1 → Rel.R w1 w2 → Φ d v w2)
    (fr : (Nat → Value) → List Value) (hfr : ∀ x, fillL x 0 sds a0.tmps.toList = fr x)
    (steps : factAll P l Φ sds a0 w0 l dss)
    (fin : ∀ (x : Nat → Value) (w' : World), Rel.R w0 w' → depAll Φ x w' sds → Q .normal ⟨(fr x).toArray, a0.defers⟩ w') :
    (Code.region id l.toArray true).wp P Q a0 w0 := by
  simp only [Bool.and_eq_true, List.all_eq_true, List.any_eq_true, decide_eq_true_eq, beq_iff_eq] at hok2
  obtain ⟨⟨⟨c1, c2⟩, c3⟩, c4⟩ := hok2
  have sp := relOk_spec hok
  have hfr' : ∀ x, fillR x sds a0 = ⟨(fr x).toArray, a0.defers⟩ := fun x => by
    simp only [fillR, Act.mk.injEq, and_true]
    rw [← hfr, fillL_eq x _ 0 sds (fun _ _ => Nat.zero_le _) c3]
    simp
  refine wp_region_any hm (rel_sound sp h0 (ds := sds) (imp := sds) (fr := fun x => fillR x sds a0) (fm := List.replicate l.length false) ?_ ?_ (fun _ => rfl) stable (factAll_rel h0 (fun s hs => c4 s hs) c1 steps) ?_ (fun x w' hk hd => wpSel_none l (by rw [hfr']; exact fin x w' hk hd)) _ _ _ _ ?_)
  · intro t ht o ho he
    have := c1 o ho
    rw [he] at this
    exact ht (List.contains_iff_mem.1 this)
  · intro s hs
    obtain ⟨o, ho, he⟩ := c2 s hs
    obtain ⟨j, hj⟩ := List.getElem?_of_mem ho
    exact ⟨j, o, hj, he⟩
  · refine ⟨by simp, fun j o d hj hd hm => ?_⟩
    rw [List.getD_eq_getElem?_getD, List.getElem?_replicate] at hm
    split at hm <;> cases hm
  · have hfalse : ∀ j b, j < l.length → (Array.replicate l.toArray.size false).getD j b = false := fun j b hj => by simp [hj]
    refine ⟨by simp, ⟨List.range l.length, List.nodup_range, fun j => ?_, by simp⟩, h0, rfl, fun _ _ => rfl, (Rel.drew w0), ?_, ?_⟩
    · rw [List.mem_range]
      exact ⟨fun h => ⟨h, hfalse j true h⟩, fun h => h.1⟩
    · intro j o d hj _ hl
      rw [hfalse j false (List.getElem?_eq_some_iff.1 hj).1] at hl
      cases hl
    · intro k j _ hl
      by_cases hk : k < l.length
      · rw [hfalse k false hk] at hl; cases hl
      · simp [hk] at hl
/-- An operation without a guard. -/
theorem stepF_un {o : Oper} {d : Nat} {w' : World} {a : Act} (hg : o.guard = none) (h : ∀ K : Act → World → Prop, (∀ v w'', Φ d v w'' → Rel.R w' w'' → K (a.put o.dst v) w'') → o.wp P a w' K (fun _ _ _ => False)) : stepF P l Φ o d w' a := fun K hK => by
  rw [if_pos (by simp [Region.wanted, hg])]
  exact h K hK
omit [Rel] in
theorem yielded_of {a : Act} {i g : Nat} {b : Bool} {oi : Oper} (hi : l[i]? = some oi) (hd : oi.dst = some g) (hg : a.tmps[g]?.getD undef = .bool b) : yielded l.toArray a.tmps i = some b := by
  unfold yielded
  have : l.toArray[i]? = some oi := by simpa using hi
  rw [this]
  show (match ((some oi).bind (·.dst)).bind (a.tmps[·]?) with | some (.bool b) => some b | _ => none) = some b
  simp only [Option.bind_some, hd]
  have h := hg
  cases hc : a.tmps[g]? with
  | none => rw [hc] at h; cases h
  | some v =>
    rw [hc] at h
    simp only [Option.getD_some] at h
    subst h
    rfl
/-- An operation whose guard holds. -/
theorem stepF_yes {o oi : Oper} {d i g : Nat} {b : Bool} {w' : World} {a : Act} (hg : o.guard = some (i, b)) (hi : l[i]? = some oi) (hd : oi.dst = some g) (hv : a.tmps[g]?.getD undef = .bool b)
    (h : ∀ K : Act → World → Prop, (∀ v w'', Φ d v w'' → Rel.R w' w'' → K (a.put o.dst v) w'') → o.wp P a w' K (fun _ _ _ => False)) : stepF P l Φ o d w' a := fun K hK => by
  rw [if_pos (by simp [Region.wanted, hg, yielded_of hi hd hv])]
  exact h K hK
/-- An operation whose guard does not hold. -/
theorem stepF_no {o oi : Oper} {d i g : Nat} {b : Bool} {w' : World} {a : Act} (hg : o.guard = some (i, b)) (hi : l[i]? = some oi) (hd : oi.dst = some g) (hv : a.tmps[g]?.getD undef = .bool (!b)) (h : Φ d undef w') : stepF P l Φ o d w' a := fun K hK => by
  rw [if_neg (by simp [Region.wanted, hg, yielded_of hi hd hv])]
  exact h
/-- An operation that is quiet at every world. -/
theorem stepF_val {o : Oper} {d : Nat} {w' : World} {a : Act} {K : Act → World → Prop} (v : Value) (hK : ∀ v w'', Φ d v w'' → Rel.R w' w'' → K (a.put o.dst v) w'') (hr : (execOp a.eval o).run P w' = .ok (.value v) w') (h : Φ d v w') : o.wp P a w' K (fun _ _ _ => False) := by
  unfold Oper.wp
  rw [hr]
  exact hK v w' h (Rel.refl _)
omit [Rel] in
theorem run_move {a : Act} {o : Oper} {t : Nat} {v : Value} (ho : o.op = .move (.tmp t)) (hv : a.tmps[t]?.getD undef = v) (w : World) : (execOp a.eval o).run P w = .ok (.value v) w := by
  have hv' : a.eval (.tmp t) = v := by
    show a.tmps.getD t undef = v
    rw [Array.getD_eq_getD_getElem?]; exact hv
  simp only [execOp, ho, hv']; rfl
omit [Rel] in
theorem run_assign {a : Act} {o : Oper} {t : Nat} {v : Value} (ho : o.op = .assign (.tmp t)) (hv : a.tmps[t]?.getD undef = v) (w : World) : (execOp a.eval o).run P w = .ok (.value v) w := by
  have hv' : a.eval (.tmp t) = v := by
    show a.tmps.getD t undef = v
    rw [Array.getD_eq_getD_getElem?]; exact hv
  simp only [execOp, ho, hv']; rfl
omit [Rel] in
theorem run_moveC {a : Act} {o : Oper} {v : Value} (ho : o.op = .move (.const v)) (w : World) : (execOp a.eval o).run P w = .ok (.value v) w := by
  simp only [execOp, ho]; rfl
omit [Rel] in
theorem run_assignC {a : Act} {o : Oper} {v : Value} (ho : o.op = .assign (.const v)) (w : World) : (execOp a.eval o).run P w = .ok (.value v) w := by
  simp only [execOp, ho]; rfl
end

/-- A fact of a value that stays true along the relation. -/
structure GFact [Rel] where
  p : Value → World → Prop
  st : ∀ v w1 w2, p v w1 → Rel.R w1 w2 → p v w2
def gfactOf [Rel] : List (Nat × GFact) → Nat → Value → World → Prop
  | [], _ => fun _ _ => True
  | (k, f) :: r, d => if d = k then f.p else gfactOf r d
theorem gfactOf_stable [Rel] : ∀ (fs : List (Nat × GFact)) (d : Nat) (v : Value) (w1 w2 : World), gfactOf fs d v w1 → Rel.R w1 w2 → gfactOf fs d v w2
  | [], _, _, _, _, _, _ => trivial
  | (k, f) :: r, d, v, w1, w2, h, hk => by
    unfold gfactOf at *
    by_cases hd : d = k
    · rw [if_pos hd] at *; exact f.st v w1 w2 h hk
    · rw [if_neg hd] at *; exact gfactOf_stable r d v w1 w2 h hk
def GFact.eq [Rel] (u : Value) : GFact := ⟨fun v _ => v = u, fun _ _ _ h _ => h⟩

end Go.Proofs.YtddmioaeehgkbaaDoor.RG
