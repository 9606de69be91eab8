/-
  LAYER 6 (alpha): AlphaEnds, the walk.
  CONDITIONS: none.
-/
import Derived.Test.YtpmdfklhgabfgaaQ37
import Derived.Test.YtpmdfklhgabfgaaQ35
import Derived.BigFrame
namespace Go.Proofs.Ytpmdfklhgabfgaa
open Go.RowKit

/-- A row of numbers of the call's own; what numbers they are does not matter. -/
def IRow (w : World) (b : Nat) (y : Value) (m : Nat) : Prop := ∃ xs : List Int, w.ownsRow b 3 1 y m (xs.map (.int .i64)) ∧ ∀ x ∈ xs, x ≤ 9223372036854775807
theorem IRow.kp {w w' : World} {b m : Nat} {y : Value} {S : List Nat} (h : IRow w b y m) (hk : Kp S w w') (hS : ∀ g ∈ ownL y, g ∉ S) : IRow w' b y m := by
  obtain ⟨xs, h1, h2⟩ := h
  exact ⟨xs, own_kp h1 hk (fun g hg => hS g (mem_ownL.2 hg)), h2⟩
theorem IRow.kp0 {w w' : World} {b m : Nat} {y : Value} (h : IRow w b y m) (hk : Kp [] w w') : IRow w' b y m := h.kp hk (by simp)
theorem IRow.rd {w : World} {b m c : Nat} {A : Option Addr} (h : IRow w b (.slice A m c) m) : ∃ xs : List Int, Rd w w.heap.size A (xs.map (.int .i64)) ∧ xs.length = m ∧ ∀ x ∈ xs, x ≤ 9223372036854775807 := by
  obtain ⟨xs, h1, h2⟩ := h
  exact ⟨xs, own_rd h1, by have := h1.1; simpa using this, h2⟩
structure Tri (w : World) (b : Nat) (y1 y2 y3 : Value) (m1 m2 m3 : Nat) : Prop where
  o1 : IRow w b y1 m1
  o2 : IRow w b y2 m2
  o3 : IRow w b y3 m3
  n12 : ∀ g, y1.ownBlock = some g → y2.ownBlock ≠ some g
  n13 : ∀ g, y1.ownBlock = some g → y3.ownBlock ≠ some g
  n23 : ∀ g, y2.ownBlock = some g → y3.ownBlock ≠ some g
section
variable {w w' : World} {b m1 m2 m3 : Nat} {y1 y2 y3 y' : Value}
theorem Tri.rot (h : Tri w b y1 y2 y3 m1 m2 m3) : Tri w b y2 y3 y1 m2 m3 m1 := ⟨h.o2, h.o3, h.o1, h.n23, fun g a c => h.n12 g c a, fun g a c => h.n13 g c a⟩
theorem Tri.kp0 (h : Tri w b y1 y2 y3 m1 m2 m3) (hk : Kp [] w w') : Tri w' b y1 y2 y3 m1 m2 m3 := ⟨h.o1.kp0 hk, h.o2.kp0 hk, h.o3.kp0 hk, h.n12, h.n13, h.n23⟩
theorem Tri.push {o : Obj} (h : Tri w b y1 y2 y3 m1 m2 m3) (hown : IRow w' b y' (m1 + 1)) (hg : (w.alloc o).grownBy w' y1.ownBlock) (hat : y'.ownBlock = y1.ownBlock ∨ y'.ownBlock = some (w.alloc o).heap.size) : Tri w' b y' y2 y3 (m1 + 1) m2 m3 := by
  have hk : Kp (ownL y1) w w' := ((Kp.refl _ w).alloc o).grown hg (fun g hg => .inl (mem_ownL.2 hg))
  have key : ∀ {z : Value} {k : Nat}, IRow w b z k → (∀ g, y1.ownBlock = some g → z.ownBlock ≠ some g) → ∀ g, y'.ownBlock = some g → z.ownBlock ≠ some g := by
    intro z k hz hn g h1 h2
    rcases hat with e | e
    · exact hn g (e ▸ h1) h2
    · rw [e] at h1
      injection h1 with h1
      obtain ⟨xs, hz, _⟩ := hz
      have := (own_ge hz h2).2
      simp at h1
      omega
  exact ⟨hown, h.o2.kp hk (fun g hg hm => h.n12 g (mem_ownL.1 hm) (mem_ownL.1 hg)), h.o3.kp hk (fun g hg hm => h.n13 g (mem_ownL.1 hm) (mem_ownL.1 hg)), key h.o2 h.n12, key h.o3 h.n13, h.n23⟩
end
theorem Tri.nil (w : World) (b : Nat) : Tri w b (.slice none 0 0) (.slice none 0 0) (.slice none 0 0) 0 0 0 :=
  ⟨⟨[], ⟨rfl, .inl ⟨rfl, rfl⟩⟩, by simp⟩, ⟨[], ⟨rfl, .inl ⟨rfl, rfl⟩⟩, by simp⟩, ⟨[], ⟨rfl, .inl ⟨rfl, rfl⟩⟩, by simp⟩, fun g h => (by cases h), fun g h => (by cases h), fun g h => (by cases h)⟩
theorem IRow.snoc {w : World} {b m : Nat} {y : Value} {xs : List Int} {x : Int} (h : w.ownsRow b 3 1 y (m + 1) (xs.map (.int .i64) ++ [.int .i64 x])) (h1 : ∀ z ∈ xs, z ≤ 9223372036854775807) (h2 : x ≤ 9223372036854775807) : IRow w b y (m + 1) := by
  refine ⟨xs ++ [x], by rw [List.map_append]; exact h, fun z hz => ?_⟩
  rcases List.mem_append.1 hz with hz | hz
  · exact h1 z hz
  · rw [List.mem_singleton.1 hz]; exact h2
/-- A row of numbers, whatever they are; a row of truths. -/
def IRd (w : World) (A : Option Addr) (m : Nat) : Prop := ∃ xs : List Int, Rd w w.heap.size A (xs.map (.int .i64)) ∧ xs.length = m ∧ ∀ x ∈ xs, x ≤ 9223372036854775807
def BRd (w : World) (A : Option Addr) (m : Nat) : Prop := ∃ bs : List Bool, Rd w w.heap.size A (bs.map .bool) ∧ bs.length = m
theorem IRd.kp0 {w w' : World} {A : Option Addr} {m : Nat} (h : IRd w A m) (hk : Kp [] w w') : IRd w' A m := by
  obtain ⟨xs, h1, h2, h3⟩ := h
  exact ⟨xs, (h1.kp0 hk).bound hk.size, h2, h3⟩
theorem BRd.kp0 {w w' : World} {A : Option Addr} {m : Nat} (h : BRd w A m) (hk : Kp [] w w') : BRd w' A m := by
  obtain ⟨xs, h1, h2⟩ := h
  exact ⟨xs, (h1.kp0 hk).bound hk.size, h2⟩
theorem IRd.nil (w : World) : IRd w none 0 := ⟨[], Rd.nil _ _ _, rfl, by simp⟩
theorem BRd.nil (w : World) : BRd w none 0 := ⟨[], Rd.nil _ _ _, rfl⟩
theorem IRow.ird {w : World} {b m c : Nat} {A : Option Addr} (h : IRow w b (.slice A m c) m) : IRd w A m := h.rd
theorem IRd.tail {w : World} {g m c : Nat} (h : IRd w (some ⟨g, 0, none⟩) (m + 1)) (hc : m + 1 ≤ c) (h1 : c ≠ 1) : IRd w (some ⟨g, 1, none⟩) m := by
  obtain ⟨xs, h2, h3, h4⟩ := h
  have := h2.cut (a := 1) (n := m) (c := c) (by rw [List.length_map, h3]; omega) (by rw [List.length_map, h3]; exact hc)
  rw [if_neg h1] at this
  refine ⟨(xs.drop 1).take m, ?_, by rw [List.length_take, List.length_drop, h3]; omega, fun x hx => h4 x (List.mem_of_mem_drop (List.mem_of_mem_take hx))⟩
  rw [List.map_take, List.map_drop]
  exact this
theorem IRd.blk {w : World} {g : Nat} {xs : List Int} {rest : List Value} (h : Blk w g 3 (xs.map (.int .i64) ++ rest)) (h2 : ∀ x ∈ xs, x ≤ 9223372036854775807) : IRd w (some ⟨g, 0, none⟩) xs.length := by
  have := (h.rd h.lt).take (xs.map (Value.int .i64)).length
  rw [List.take_left'] at this
  · exact ⟨xs, this, rfl, h2⟩
  · rfl
theorem set_two {w : World} {g : Nat} {xs : List Int} {rest : List Value} (h : Blk w g 3 (xs.map (.int .i64) ++ rest)) (hl : xs.length = 257) (h2 : ∀ x ∈ xs, x ≤ 9223372036854775807) :
    IRd ((w.setCell ⟨g, 255, none⟩ (.int .i64 9)).setCell ⟨g, 256, none⟩ (.int .i64 9)) (some ⟨g, 0, none⟩) 257 := by
  have hb := (h.set_ 255 (.int .i64 9)).set_ 256 (.int .i64 9)
  rw [List.set_append_left _ _ (by rw [List.length_map, hl]; omega), List.set_append_left _ _ (by rw [List.length_set, List.length_map, hl]; omega), ← List.map_set, ← List.map_set] at hb
  have := IRd.blk hb (fun x hx => by
    rcases List.mem_or_eq_of_mem_set hx with hx | rfl
    · rcases List.mem_or_eq_of_mem_set hx with hx | rfl
      · exact h2 x hx
      · omega
    · omega)
  rwa [List.length_set, List.length_set, hl] at this
theorem wpList_append_rdg {P : Program} {w : World} {ops : Array Oper} {rest : List Oper} {o : Oper} {a : Act} {Q : Exit → Act → World → Prop} (hgd : Region.wanted o (yielded ops a.tmps) = true) (s x : Operand) (t : TypeId)
    (ho : o.op = .call { callee := .builtin .append, args := #[s, x], argTypes := #[t, t] })
    (base : Nat) (e : TypeId) (i : TypeInfo) (z : Value) (size bytes : Nat) (ht : P.underlying t = some (.slice e)) (hi : P.info? e = some i) (hz : i.zero = some z)
    (hsize : i.size = size) (hby : i.bytes = bytes) (hzs : z.cells.size = size) (hsz : 0 < size)
    (v : Value) (n : Nat) (xs : List Value) (hs : a.eval s = v) (hown : w.ownsRow base e size v n xs)
    (B : Nat) (A : Option Addr) (m c : Nat) (news : List Value) (hx : a.eval x = .slice A m c) (hl : news.length = m * size) (hr : Rd w B A news) (h1 : ∀ u ∈ news, u.oneCell' = true)
    (h63 : n + m ≤ maxLen) (hbytes : (n + m) * bytes ≤ 140737488355328) (hbase : base ≤ w.heap.size)
    (h : ∀ v' w', w'.ownsRow base e size v' (n + m) (xs ++ news) → w.grownBy w' v.ownBlock → (v'.ownBlock = v.ownBlock ∨ v'.ownBlock = some w.heap.size) → wpList P ops Q rest (a.put o.dst v') w') :
    wpList P ops Q (o :: rest) a w :=
  Go.BigFrame.wpList_want hgd fun _ hK => wp_append_rd s x t ho base e i z size bytes ht hi hz hsize hby hzs hsz v n xs hs hown B A m c news hx hl hr h1 h63 hbytes hbase fun v' w' h2 h3 h4 => hK _ _ (h v' w' h2 h3 h4)
theorem BRd.far {w w' : World} {g m : Nat} {S : List Nat} (h : BRd w (some ⟨g, 0, none⟩) m) (hk : Kp S w w') (hg : g ∉ S) : BRd w' (some ⟨g, 0, none⟩) m := by
  obtain ⟨xs, h1, h2⟩ := h
  exact ⟨xs, (h1.kp_ne hk (fun ad e => by injection e with e; subst e; exact hg)).bound hk.size, h2⟩
/-- Some blocks, one behind the other. -/
def allocs (w : World) (os : List Obj) : World := os.foldl World.alloc w
theorem allocs_heap (os : List Obj) : ∀ w : World, (allocs w os).heap = w.heap ++ os.toArray := by
  induction os with
  | nil => intro w; simp [allocs]
  | cons o os ih =>
    intro w
    show (allocs (w.alloc o) os).heap = _
    rw [ih]
    show w.heap.push o ++ os.toArray = _
    rw [Array.push_eq_append, Array.append_assoc]
    simp
theorem allocs_kp (os : List Obj) : ∀ w : World, Kp [] w (allocs w os) := by
  induction os with
  | nil => intro w; exact Kp.refl _ _
  | cons o os ih => intro w; exact ((Kp.refl [] w).alloc o).trans (ih _)
theorem allocs_at (w : World) (os : List Obj) (i : Nat) (o : Obj) (h : os[i]? = some o) : (allocs w os).heap[w.heap.size + i]? = some o := by
  rw [allocs_heap, Array.getElem?_append_right (by omega)]
  simpa using h
def IRows (w : World) (A : Option Addr) (n : Nat) : Prop := ∃ l : List Value, l.length = n ∧ Rd w w.heap.size A l ∧ ∀ v ∈ l, ∃ (A' : Option Addr) (m c : Nat), v = .slice A' m c ∧ IRd w A' m
theorem IRows.kp0 {w w' : World} {A : Option Addr} {m : Nat} (h : IRows w A m) (hk : Kp [] w w') : IRows w' A m := by
  obtain ⟨l, h1, h2, h3⟩ := h
  exact ⟨l, h1, (h2.kp0 hk).bound hk.size, fun v hv => by obtain ⟨A', m, c, e, h⟩ := h3 v hv; exact ⟨A', m, c, e, h.kp0 hk⟩⟩
theorem IRows.ix {w : World} {A : Option Addr} {n i : Nat} (h : IRows w A n) (hi : i < n) : ∃ (ad : Addr) (A' : Option Addr) (m c : Nat), A = some ad ∧ w.cell? (ad.add i) = some (.slice A' m c) ∧ IRd w A' m := by
  obtain ⟨l, h1, h2, h3⟩ := h
  subst h1
  obtain ⟨A', m, c, e, h⟩ := h3 l[i] (List.getElem_mem hi)
  obtain ⟨ad, e1, _, e2⟩ := h2.at_ (i := i) (u := l[i]) (List.getElem?_eq_getElem hi)
  exact ⟨ad, A', m, c, e1, by rw [e2, e], h⟩
theorem ird_at (w : World) (g : Nat) (xs : List Int) (h : w.heap[g]? = some (.cells (xs.map (.int .i64)).toArray 3 (0, 0))) (hx : ∀ x ∈ xs, x ≤ 9223372036854775807) : IRd w (some ⟨g, 0, none⟩) xs.length := by
  have hb : Blk w g 3 (xs.map (.int .i64) ++ []) := by unfold Blk; rw [List.append_nil]; exact h
  exact IRd.blk hb hx
def rowO (xs : List Int) : Obj := .cells (xs.map (.int .i64)).toArray 3 (0, 0)
def irowV (b : Nat) : List (List Int) → List Value
  | [] => []
  | xs :: l => .slice (some ⟨b, 0, none⟩) xs.length xs.length :: irowV (b + 1) l
theorem irowV_len : ∀ (l : List (List Int)) (b : Nat), (irowV b l).length = l.length
  | [], _ => rfl
  | _ :: l, b => by unfold irowV; rw [List.length_cons, List.length_cons, irowV_len l]
theorem irowV_mem : ∀ (l : List (List Int)) (b : Nat), ∀ v ∈ irowV b l, ∃ i xs, l[i]? = some xs ∧ v = .slice (some ⟨b + i, 0, none⟩) xs.length xs.length
  | [], _, v, h => by simp [irowV] at h
  | x :: l, b, v, h => by
    unfold irowV at h
    rcases List.mem_cons.1 h with rfl | h
    · exact ⟨0, x, rfl, rfl⟩
    · obtain ⟨i, xs, h1, h2⟩ := irowV_mem l (b + 1) v h
      exact ⟨i + 1, xs, by simpa using h1, by rw [h2, Nat.add_assoc, Nat.add_comm 1]⟩
theorem rows_mk (w : World) (xss : List (List Int)) (hx : ∀ xs ∈ xss, ∀ x ∈ xs, x ≤ 9223372036854775807) :
    IRows (allocs w (xss.map rowO ++ [.cells (.slice none 0 0 :: irowV w.heap.size xss).toArray 23 (0, 0)])) (some ⟨w.heap.size + xss.length, 0, none⟩) (xss.length + 1) := by
  refine ⟨.slice none 0 0 :: irowV w.heap.size xss, by rw [List.length_cons, irowV_len], ?_, fun v hv => ?_⟩
  · have hb : Blk (allocs w (xss.map rowO ++ [.cells (.slice none 0 0 :: irowV w.heap.size xss).toArray 23 (0, 0)])) (w.heap.size + xss.length) 23 (.slice none 0 0 :: irowV w.heap.size xss) := by
      unfold Blk
      exact allocs_at w _ xss.length _ (by rw [List.getElem?_append_right (by rw [List.length_map]; exact Nat.le_refl _), List.length_map, Nat.sub_self]; rfl)
    exact hb.rd hb.lt
  · rcases List.mem_cons.1 hv with rfl | hv
    · exact ⟨none, 0, 0, rfl, IRd.nil _⟩
    · obtain ⟨i, xs, h1, rfl⟩ := irowV_mem xss _ v hv
      refine ⟨_, _, _, rfl, ird_at _ _ xs ?_ (hx xs (List.mem_of_getElem? h1))⟩
      exact allocs_at w _ i _ (by rw [List.getElem?_append_left (by rw [List.length_map]; exact (List.getElem?_eq_some_iff.1 h1).1), List.getElem?_map, h1]; rfl)
def SFact.cellv (u : Value) : SFact := ⟨fun v w => ∃ ad : Addr, v = .pointer (some ad) ∧ w.cell? ad = some u, fun _ _ _ h hk => by
  obtain ⟨ad, h1, h2⟩ := h
  exact ⟨ad, h1, hk.cell h2 (by simp)⟩⟩
theorem BRd.take {w : World} {A : Option Addr} {m n : Nat} (h : BRd w A m) (hn : n ≤ m) : BRd w A n := by
  obtain ⟨bs, h1, h2⟩ := h
  exact ⟨bs.take n, by rw [List.map_take]; exact h1.take n, by rw [List.length_take, h2]; omega⟩
def strs4 : List ByteArray := [⟨#[]⟩, ⟨#[0]⟩, ⟨#[4]⟩, ⟨#[255]⟩]
theorem strs4_get (j : Nat) (hj : j < 4) : ∃ s : ByteArray, ([.string ⟨#[]⟩, .string ⟨#[0]⟩, .string ⟨#[4]⟩, .string ⟨#[255]⟩] : List Value)[j]? = some (.string s) ∧ s.size ≤ 1000 := by
  match j, hj with
  | 0, _ => exact ⟨_, rfl, by decide⟩
  | 1, _ => exact ⟨_, rfl, by decide⟩
  | 2, _ => exact ⟨_, rfl, by decide⟩
  | 3, _ => exact ⟨_, rfl, by decide⟩
set_option maxRecDepth 100000 in
set_option maxHeartbeats 4000000 in
theorem makes_i (A A' A4 : Option Addr) (n m c c' N cA : Nat) (s : ByteArray) (w : World) (h1 : IRd w A n) (h2 : IRd w A' m) (h3 : BRd w A4 N) (hc : N ≤ cA) (hs : s.size ≤ 1000) (hN : N ≤ 1000) :
    Calls Try.prog 5 #[.slice A n c, .slice A' m c', .string s, .slice A4 N cA] w fun e w' => e = .returned (.bool true) ∧ Kp [] w w' := by
  obtain ⟨sm, a1, a2, a3⟩ := h1
  obtain ⟨ls, b1, b2, b3⟩ := h2
  obtain ⟨bs, c1, c2⟩ := h3
  exact amakes_any A A' A4 n m c c' N cA _ _ _ sm ls s bs w a1 b1 c1 a2 b2 c2 (Nat.le_refl _) hc (by omega) (by omega) b3
set_option maxRecDepth 100000 in
set_option maxHeartbeats 4000000 in
theorem aends_any (w : World) : Calls Try.prog 7 #[] w fun e w' => e = .returned (.bool true) ∧ Kp [] w w' := by
  obtain ⟨i0, hi, hz0, hz1, hz2⟩ := info_parts Try.info_aint
  go_enter Try.func7, Try.ntmps7
  go_wp2_with fail
  go_loopw [1, 2, 3, 4] (fun y1 y2 y3 x wr => ∃ (k c1 c2 c3 : Nat) (A1 A2 A3 : Option Addr), x = .int .i64 (k : Int) ∧ y1 = .slice A1 k c1 ∧ y2 = .slice A2 k c2 ∧ y3 = .slice A3 k c3 ∧ k ≤ 257 ∧ Hid (Tri wr w.heap.size (.slice A1 k c1) (.slice A2 k c2) (.slice A3 k c3) k k k) ∧ Hid (Kp [] w wr)) (fun _ _ _ x _ => 257 - (intOf x).toNat)
  case atStart => exact ⟨0, 0, 0, 0, none, none, none, rfl, rfl, rfl, rfl, by omega, Lib.hid (Tri.nil _ _), Lib.hid (Kp.refl _ _)⟩
  case round =>
    obtain ⟨k, c1, c2, c3, A1, A2, A3, rfl, rfl, rfl, rfl, hk, HT, HK⟩ := hrel
    by_cases hlt : k < 257
    · have hb0 : (0 : Int) ≤ (k : Int) := by omega
      have hb1 : (k : Int) < 257 := by omega
      have hzb : min ((k : Int) + 1) 256 ≤ 9223372036854775807 := by omega
      have HSZ := Lib.hid HK.out.size
      obtain ⟨xs1, ho1, hx1⟩ := HT.out.o1
      have HO1 := Lib.hid ho1
      have HX1 := Lib.hid hx1
      clear ho1 hx1
      have HZB := Lib.hid hzb
      clear hzb
      go_wp2_with (first
        | (at_builtin; refine wpList_append_rd rfl (.tmp 14) (.tmp 16) 23 rfl (w.heap.size) 3 i0 (.int .i64 0) 1 8 Try.underlying23 hi hz0 hz1 hz2 rfl (by decide) (.slice A1 k c1) (k) _ rfl (own_kp0 HO1.out ((Kp.refl [] _).alloc _)) _ _ 1 1 [.int .i64 (k : Int)] rfl rfl (Rd.new wr #[.int .i64 (k : Int)] 3 (0, 0)) (by intro u hu; simp at hu; subst hu; rfl) (by unfold maxLen; omega) (by omega) (by have := HSZ.out; simp; omega) ?_; intro v4 w4 hown4 hgrow4 hat4; obtain ⟨hka4, hga4⟩ := app_facts hgrow4 hat4; obtain ⟨A4', c4', rfl, _⟩ := own_form hown4; have HT4 := Lib.hid (HT.out.push (IRow.snoc hown4 HX1.out (by omega)) hgrow4 hat4).rot; have HK4 := Lib.hid (HK.out.trans' hka4 (fun x hx => .inr (own_ge HO1.out (mem_ownL.1 hx)).1)); clear hown4 hgrow4 hat4 hka4 hga4; obtain ⟨xs2, ho2, hx2⟩ := HT4.out.o1; have HO2 := Lib.hid ho2; have HX2 := Lib.hid hx2; have HSZ2 := Lib.hid HK4.out.size; clear ho2 hx2)
        | (at_builtin; refine wpList_append_rd rfl (.tmp 18) (.tmp 19) 23 rfl (w.heap.size) 3 i0 (.int .i64 0) 1 8 Try.underlying23 hi hz0 hz1 hz2 rfl (by decide) (.slice A2 k c2) (k) _ rfl (own_kp0 HO2.out ((Kp.refl [] _).alloc _)) _ _ 1 1 [.int .i64 8] rfl rfl (Rd.new w4 #[.int .i64 8] 3 (0, 0)) (by intro u hu; simp at hu; subst hu; rfl) (by unfold maxLen; omega) (by omega) (by have := HSZ2.out; simp; omega) ?_; intro v5 w5 hown5 hgrow5 hat5; obtain ⟨hka5, hga5⟩ := app_facts hgrow5 hat5; obtain ⟨A5', c5', rfl, _⟩ := own_form hown5; have HT5 := Lib.hid (HT4.out.push (IRow.snoc hown5 HX2.out (by omega)) hgrow5 hat5).rot; have HK5 := Lib.hid (HK4.out.trans' hka5 (fun x hx => .inr (own_ge HO2.out (mem_ownL.1 hx)).1)); clear hown5 hgrow5 hat5 hka5 hga5; obtain ⟨xs3, ho3, hx3⟩ := HT5.out.o1; have HO3 := Lib.hid ho3; have HX3 := Lib.hid hx3; have HSZ3 := Lib.hid HK5.out.size; clear ho3 hx3)
        | (go_loud (at_builtin; refine wpList_append_rd rfl (.tmp 21) (.tmp 25) 23 rfl (w.heap.size) 3 i0 (.int .i64 0) 1 8 Try.underlying23 hi hz0 hz1 hz2 rfl (by decide) (.slice A3 k c3) (k) _ rfl (own_kp0 HO3.out ((Kp.refl [] _).alloc _)) _ _ 1 1 [(.int .i64 (min ((k : Int) + 1) 256))] rfl rfl (Rd.new w5 #[(.int .i64 (min ((k : Int) + 1) 256))] 3 (0, 0)) (by intro u hu; simp at hu; subst hu; rfl) (by unfold maxLen; omega) (by omega) (by have := HSZ3.out; simp; omega) ?_; intro v6 w6 hown6 hgrow6 hat6; obtain ⟨hka6, hga6⟩ := app_facts hgrow6 hat6; obtain ⟨A6', c6', rfl, _⟩ := own_form hown6; have HT6 := Lib.hid (HT5.out.push (IRow.snoc hown6 HX3.out HZB.out) hgrow6 hat6).rot; have HK6 := Lib.hid (HK5.out.trans' hka6 (fun x hx => .inr (own_ge HO3.out (mem_ownL.1 hx)).1)); clear hown6 hgrow6 hat6 hka6 hga6)))
      exact ⟨⟨k + 1, c4', c5', c6', A4', A5', A6', by go_num, rfl, rfl, rfl, by omega, HT6, HK6⟩, by simp [intOf]; omega⟩
    · obtain rfl : k = 257 := by omega
      obtain ⟨xs2, ho2, hx2⟩ := HT.out.o2
      obtain ⟨g2, cap, rest, hv, hg2, hb2, hn2, _, hl2, _⟩ := (own_blk ho2).resolve_left (fun h => by have := h.2.1; omega)
      injection hv with e1 e2 e3
      subst e1 e3
      obtain ⟨xs1, ho1, hx1⟩ := HT.out.o1
      obtain ⟨g1, cap1, rest1, hv1, _, _, hn1, _, _, _⟩ := (own_blk ho1).resolve_left (fun h => by have := h.2.1; omega)
      injection hv1 with e1 e2 e3
      subst e1 e3
      obtain ⟨u1, _, hu1⟩ := hb2.ix (i := 255) (by rw [List.length_append, hl2]; omega)
      have hf1 := hb2.free 255
      have hb3 := hb2.set_ 255 (.int .i64 9)
      obtain ⟨u2, _, hu2⟩ := hb3.ix (i := 256) (by rw [List.length_set, List.length_append, hl2]; omega)
      have hf2 := hb3.free 256
      obtain ⟨ws, hws⟩ : ∃ ws, ws = (wr.setCell ⟨g2, 255, none⟩ (.int .i64 9)).setCell ⟨g2, 256, none⟩ (.int .i64 9) := ⟨_, rfl⟩
      have HE := Lib.hid (show IRd ws (some ⟨g2, 0, none⟩) 257 from by rw [hws]; exact set_two hb2 (by simpa using hl2) hx2)
      have hks : Kp [g2] wr ws := by rw [hws]; exact ((Kp.refl [g2] wr).setCell (.inl (by simp)) _).setCell (.inl (by simp)) _
      have HS1 := Lib.hid (HT.out.o1.kp hks (fun g hg hm => by
        simp only [List.mem_singleton] at hm
        subst hm
        exact HT.out.n12 _ (mem_ownL.1 hg) rfl))
      have HS3 := Lib.hid (HT.out.o3.kp hks (fun g hg hm => by
        simp only [List.mem_singleton] at hm
        subst hm
        exact HT.out.n23 _ rfl (mem_ownL.1 hg)))
      have HN13 := Lib.hid HT.out.n13
      have HKS := Lib.hid (HK.out.trans' hks (fun x hx => .inr (by simp only [List.mem_singleton] at hx; subst hx; exact hg2)))
      have HWS := Lib.hid hws
      have HN1 := Lib.hid hn1
      clear ho2 hl2 hb2 hb3 hk hlt hks hws HT HK hx1 hx2 ho1 hn1 hn2
      go_wp2_with fail
      rw [← HWS.out]
      have hsz : ws.heap.size = wr.heap.size := by rw [HWS.out]; simp
      obtain ⟨wa, hwa⟩ : ∃ wa, wa = ws.alloc (.cells #[.bool false, .bool true, .bool true, .bool false, .bool false, .bool false, .bool true, .bool false, .bool true, .bool true, .bool true, .bool true, .bool true, .bool true, .bool false, .bool false, .bool false, .bool false, .bool false, .bool false, .bool false] 4) := ⟨_, rfl⟩
      obtain ⟨ga, hga⟩ : ∃ ga, ga = wr.heap.size := ⟨_, rfl⟩
      rw [← hwa, ← hga]
      have hka : Kp [] ws wa := by rw [hwa]; exact (Kp.refl [] ws).alloc _
      have HALL := Lib.hid (show BRd wa (some ⟨ga, 0, none⟩) 21 from ⟨[false, true, true, false, false, false, true, false, true, true, true, true, true, true, false, false, false, false, false, false, false], by
        rw [hwa, hga, ← hsz]
        exact (Rd.new ws #[.bool false, .bool true, .bool true, .bool false, .bool false, .bool false, .bool true, .bool false, .bool true, .bool true, .bool true, .bool true, .bool true, .bool true, .bool false, .bool false, .bool false, .bool false, .bool false, .bool false, .bool false] 4 (0, 0)).here, rfl⟩)
      have HL1 := HS1
      have HL3 := HS3
      replace HE := Lib.hid (HE.out.kp0 hka)
      replace HS1 := Lib.hid (HS1.out.kp0 hka)
      replace HS3 := Lib.hid (HS3.out.kp0 hka)
      replace HKS := Lib.hid (HKS.out.trans hka)
      have HG1 := Lib.hid (show ∀ g ∈ ownL (.slice (some ⟨g1, 0, none⟩) 257 c1), g < ga from fun g hg => by
        obtain ⟨xs, h1, _⟩ := HL1.out
        have := (own_ge h1 (mem_ownL.1 hg)).2
        omega)
      have HG3 := Lib.hid (show ∀ g ∈ ownL (.slice A3 257 c3), g < ga from fun g hg => by
        obtain ⟨xs, h1, _⟩ := HL3.out
        have := (own_ge h1 (mem_ownL.1 hg)).2
        omega)
      have HGW := Lib.hid (show ga < wa.heap.size from by rw [hwa]; simp; omega)
      clear hwa hka hga hsz HWS HL1 HL3
      refine (makes_i _ _ _ 257 257 _ _ 21 21 ⟨#[97, 122, 0, 255]⟩ wa HS1.out.ird HE.out HALL.out (by omega) (by decide) (by omega)).mono ?_
      rintro e w5 ⟨rfl, hkn⟩
      replace HE := Lib.hid (HE.out.kp0 hkn)
      replace HALL := Lib.hid (HALL.out.kp0 hkn)
      replace HS1 := Lib.hid (HS1.out.kp0 hkn)
      replace HS3 := Lib.hid (HS3.out.kp0 hkn)
      replace HKS := Lib.hid (HKS.out.trans hkn)
      replace HGW := Lib.hid (Nat.lt_of_lt_of_le HGW.out hkn.size)
      clear hkn
      go_wp2_with fail
      refine (makes_i _ _ _ 257 257 _ _ 21 21 ⟨#[0, 1, 254, 255]⟩ w5 HS1.out.ird HS3.out.ird HALL.out (by omega) (by decide) (by omega)).mono ?_
      rintro e w6 ⟨rfl, hkn⟩
      replace HE := Lib.hid (HE.out.kp0 hkn)
      replace HALL := Lib.hid (HALL.out.kp0 hkn)
      replace HS1 := Lib.hid (HS1.out.kp0 hkn)
      replace HS3 := Lib.hid (HS3.out.kp0 hkn)
      replace HKS := Lib.hid (HKS.out.trans hkn)
      replace HGW := Lib.hid (Nat.lt_of_lt_of_le HGW.out hkn.size)
      clear hkn
      have hne : c1 ≠ 1 := by have := HN1.out; omega
      have hle1 : 257 ≤ c1 := HN1.out
      go_wp2_with fail
      refine (makes_i _ _ _ 256 257 _ _ 0 0 ⟨#[]⟩ w6 (HS1.out.ird.tail HN1.out hne) HE.out (BRd.nil _) (by omega) (by decide) (by omega)).mono ?_
      rintro e w7 ⟨rfl, hkn⟩
      replace HE := Lib.hid (HE.out.kp0 hkn)
      replace HALL := Lib.hid (HALL.out.kp0 hkn)
      replace HS1 := Lib.hid (HS1.out.kp0 hkn)
      replace HS3 := Lib.hid (HS3.out.kp0 hkn)
      replace HKS := Lib.hid (HKS.out.trans hkn)
      replace HGW := Lib.hid (Nat.lt_of_lt_of_le HGW.out hkn.size)
      clear hkn
      obtain ⟨xs1, ho1, hx1⟩ := HS1.out
      have HO1 := Lib.hid ho1
      have HX1 := Lib.hid hx1
      clear ho1 hx1
      go_wp2_with (first
        | (at_builtin; (refine wpList_append_rdg (by rfl) (.tmp 52) (.tmp 53) 23 rfl (w.heap.size) 3 i0 (.int .i64 0) 1 8 Try.underlying23 hi hz0 hz1 hz2 rfl (by decide) (.slice (some ⟨g1, 0, none⟩) 257 c1) (257) _ rfl (own_kp0 HO1.out ((Kp.refl [] _).alloc _)) _ _ 1 1 [.int .i64 257] rfl rfl (Rd.new w7 #[.int .i64 257] 3 (0, 0)) (by intro u hu; simp at hu; subst hu; rfl) (by unfold maxLen; omega) (by omega) (by have := HKS.out.size; simp; omega) ?_); intro v8 w8 hown8 hgrow8 hat8; obtain ⟨hka8, hga8⟩ := app_facts hgrow8 hat8; obtain ⟨A8', c8', rfl, _⟩ := own_form hown8; have HR8 := Lib.hid (IRow.snoc hown8 HX1.out (by omega)); have HG8 := Lib.hid hga8; have HS38 := Lib.hid (HS3.out.kp hka8 (fun g hg hm => HN13.out g (mem_ownL.1 hm) (mem_ownL.1 hg))); have HK8 := Lib.hid (HKS.out.trans' hka8 (fun x hx => .inr (own_ge HO1.out (mem_ownL.1 hx)).1)); have HALL8 := Lib.hid (HALL.out.far hka8 (fun hm => by have := HG1.out _ hm; omega)); clear hown8 hgrow8 hat8 hka8 hga8; obtain ⟨xs3, ho3, hx3⟩ := HS38.out; have HO3 := Lib.hid ho3; have HX3 := Lib.hid hx3; clear ho3 hx3)
        | (at_builtin; (refine wpList_append_rdg (by rfl) (.tmp 55) (.tmp 56) 23 rfl (w.heap.size) 3 i0 (.int .i64 0) 1 8 Try.underlying23 hi hz0 hz1 hz2 rfl (by decide) (.slice A3 257 c3) (257) _ rfl (own_kp0 HO3.out ((Kp.refl [] _).alloc _)) _ _ 1 1 [.int .i64 256] rfl rfl (Rd.new w8 #[.int .i64 256] 3 (0, 0)) (by intro u hu; simp at hu; subst hu; rfl) (by unfold maxLen; omega) (by omega) (by have := HK8.out.size; simp; omega) ?_); intro v9 w9 hown9 hgrow9 hat9; obtain ⟨hka9, hga9⟩ := app_facts hgrow9 hat9; obtain ⟨A9', c9', rfl, _⟩ := own_form hown9; have HE9 := Lib.hid (IRow.snoc hown9 HX3.out (by omega)).ird; have HR9 := Lib.hid (HR8.out.kp hka9 (fun g hg hm => (HG8.out g hg).elim (fun h => HN13.out g (mem_ownL.1 h) (mem_ownL.1 hm)) (fun h => by have h1 := HG3.out g hm; have h2 := HGW.out; omega))).ird; have HK9 := Lib.hid (HK8.out.trans' hka9 (fun x hx => .inr (own_ge HO3.out (mem_ownL.1 hx)).1)); have HALL9 := Lib.hid (HALL8.out.far hka9 (fun hm => by have := HG3.out _ hm; omega)); clear hown9 hgrow9 hat9 hka9 hga9))
      refine (makes_i _ _ _ 258 258 _ _ 0 0 ⟨#[]⟩ w9 HR9.out HE9.out (BRd.nil _) (by omega) (by decide) (by omega)).mono ?_
      rintro e w10 ⟨rfl, hk10⟩
      have HALL10 := Lib.hid (HALL9.out.kp0 hk10)
      have HK10 := Lib.hid (HK9.out.trans hk10)
      clear hk10 HR9 HE9 HALL9 HK9 HALL8 HK8 HG8 HR8 HS38 HX3 HO3 HG3 HX1 HO1 HG1 HGW HE HN13 HS1 HS3 HALL HKS hne hle1 HN1
      go_upto_region 14 with fail
      have HP := Lib.hid (rows_mk w10 [[0], [5], [257], [-1], [0, 5], [5, 0], [5, 5], [0, 256], [0, 257], [0, 1, 2]] (by decide))
      obtain ⟨w11, hnew⟩ : ∃ x, x = (((((((((((w10.alloc (.cells #[.int .i64 0] 3)).alloc (.cells #[.int .i64 5] 3)).alloc (.cells #[.int .i64 257] 3)).alloc (.cells #[.int .i64 (-1)] 3)).alloc (.cells #[.int .i64 0, .int .i64 5] 3)).alloc (.cells #[.int .i64 5, .int .i64 0] 3)).alloc (.cells #[.int .i64 5, .int .i64 5] 3)).alloc (.cells #[.int .i64 0, .int .i64 256] 3)).alloc (.cells #[.int .i64 0, .int .i64 257] 3)).alloc (.cells #[.int .i64 0, .int .i64 1, .int .i64 2] 3)).alloc (.cells #[.slice none 0 0, .slice (some ⟨w10.heap.size, 0, none⟩) 1 1, .slice (some ⟨w10.heap.size + 1, 0, none⟩) 1 1, .slice (some ⟨w10.heap.size + 2, 0, none⟩) 1 1, .slice (some ⟨w10.heap.size + 3, 0, none⟩) 1 1, .slice (some ⟨w10.heap.size + 4, 0, none⟩) 2 2, .slice (some ⟨w10.heap.size + 5, 0, none⟩) 2 2, .slice (some ⟨w10.heap.size + 6, 0, none⟩) 2 2, .slice (some ⟨w10.heap.size + 7, 0, none⟩) 2 2, .slice (some ⟨w10.heap.size + 8, 0, none⟩) 2 2, .slice (some ⟨w10.heap.size + 9, 0, none⟩) 3 3] 23)) := ⟨_, rfl⟩
      have hnew2 : allocs w10 ([[0], [5], [257], [-1], [0, 5], [5, 0], [5, 5], [0, 256], [0, 257], [0, 1, 2]].map rowO ++ [.cells (.slice none 0 0 :: irowV w10.heap.size [[0], [5], [257], [-1], [0, 5], [5, 0], [5, 5], [0, 256], [0, 257], [0, 1, 2]]).toArray 23 (0, 0)]) = w11 := by rw [hnew]; rfl
      rw [hnew2] at HP
      have HRA := HP
      have hkw : Kp [] w10 w11 := by rw [← hnew2]; exact allocs_kp _ _
      rw [← hnew]
      have HALL11 := Lib.hid (HALL10.out.kp0 hkw)
      have HK11 := Lib.hid (HK10.out.trans hkw)
      obtain ⟨ra, hra⟩ : ∃ ra, ra = w10.heap.size + 10 := ⟨_, rfl⟩
      replace HRA := Lib.hid (show IRows w11 (some ⟨ra, 0, none⟩) 11 from by rw [hra]; exact HRA.out)
      rw [← hra]
      clear hnew hnew2 hkw hra HP HALL10 HK10
      go_upto_region 15 with fail
      have HP := Lib.hid (rows_mk w11 [[1], [0], [2], [1, 1], [1, 2], [2, 2, 1], [1, 2, 2], [2, 1, 2]] (by decide))
      obtain ⟨w12, hnew⟩ : ∃ x, x = (((((((((w11.alloc (.cells #[.int .i64 1] 3)).alloc (.cells #[.int .i64 0] 3)).alloc (.cells #[.int .i64 2] 3)).alloc (.cells #[.int .i64 1, .int .i64 1] 3)).alloc (.cells #[.int .i64 1, .int .i64 2] 3)).alloc (.cells #[.int .i64 2, .int .i64 2, .int .i64 1] 3)).alloc (.cells #[.int .i64 1, .int .i64 2, .int .i64 2] 3)).alloc (.cells #[.int .i64 2, .int .i64 1, .int .i64 2] 3)).alloc (.cells #[.slice none 0 0, .slice (some ⟨w11.heap.size, 0, none⟩) 1 1, .slice (some ⟨w11.heap.size + 1, 0, none⟩) 1 1, .slice (some ⟨w11.heap.size + 2, 0, none⟩) 1 1, .slice (some ⟨w11.heap.size + 3, 0, none⟩) 2 2, .slice (some ⟨w11.heap.size + 4, 0, none⟩) 2 2, .slice (some ⟨w11.heap.size + 5, 0, none⟩) 3 3, .slice (some ⟨w11.heap.size + 6, 0, none⟩) 3 3, .slice (some ⟨w11.heap.size + 7, 0, none⟩) 3 3] 23)) := ⟨_, rfl⟩
      have hnew2 : allocs w11 ([[1], [0], [2], [1, 1], [1, 2], [2, 2, 1], [1, 2, 2], [2, 1, 2]].map rowO ++ [.cells (.slice none 0 0 :: irowV w11.heap.size [[1], [0], [2], [1, 1], [1, 2], [2, 2, 1], [1, 2, 2], [2, 1, 2]]).toArray 23 (0, 0)]) = w12 := by rw [hnew]; rfl
      rw [hnew2] at HP
      have HRB := HP
      have hkw : Kp [] w11 w12 := by rw [← hnew2]; exact allocs_kp _ _
      rw [← hnew]
      have HALL12 := Lib.hid (HALL11.out.kp0 hkw)
      have HK12 := Lib.hid (HK11.out.trans hkw)
      obtain ⟨rb, hrb⟩ : ∃ rb, rb = w11.heap.size + 8 := ⟨_, rfl⟩
      replace HRB := Lib.hid (show IRows w12 (some ⟨rb, 0, none⟩) 9 from by rw [hrb]; exact HRB.out)
      rw [← hrb]
      replace HRA := Lib.hid (HRA.out.kp0 hkw)
      clear hnew hnew2 hkw hrb HP HALL11 HK11
      obtain ⟨wz, rfl⟩ : ∃ wz, wz = w12 := ⟨_, rfl⟩
      go_wp2_with fail
      go_loopw [8] (fun x wr => ∃ i : Nat, x = .int .i64 (i : Int) ∧ i ≤ 11 ∧ Hid (Kp [] wz wr)) (fun x _ => 11 - (intOf x).toNat)
      case atStart => exact ⟨0, rfl, by omega, Lib.hid (Kp.refl _ _)⟩
      case round =>
        obtain ⟨i, rfl, hi11, HKI⟩ := hrel
        by_cases hlt : i < 11
        · have hb1 : (i : Int) < 11 := by omega
          have hb0 : (0 : Int) ≤ (i : Int) := by omega
          go_wp2_with fail
          go_loopw [9] (fun x wr => ∃ k : Nat, x = .int .i64 (k : Int) ∧ k ≤ 9 ∧ Hid (Kp [] wz wr)) (fun x _ => 9 - (intOf x).toNat)
          case atStart => exact ⟨0, rfl, by omega, HKI⟩
          case round =>
            clear HKI
            obtain ⟨k, rfl, hk9, HKR⟩ := hrel
            by_cases hlk : k < 9
            · have hk1 : (k : Int) < 9 := by omega
              have hk0 : (0 : Int) ≤ (k : Int) := by omega
              obtain ⟨ad1, A1', m1, d1, e1, hc1, hr1⟩ := (HRA.out.kp0 HKR.out).ix (i := i) hlt
              obtain ⟨ad2, A2', m2, d2, e2, hc2, hr2⟩ := (HRB.out.kp0 HKR.out).ix (i := k) hlk
              injection e1 with e1
              injection e2 with e2
              subst e1 e2
              rw [show (⟨ra, 0, none⟩ : Addr).add i = ⟨ra, i, none⟩ from by simp [Addr.add]; intro h; exact h.symm] at hc1
              rw [show (⟨rb, 0, none⟩ : Addr).add k = ⟨rb, k, none⟩ from by simp [Addr.add]; intro h; exact h.symm] at hc2
              have HR1 := Lib.hid hr1
              have HR2 := Lib.hid hr2
              obtain ⟨j, hj⟩ : ∃ j, j = (i + k) % 4 := ⟨_, rfl⟩
              obtain ⟨q, hq⟩ : ∃ q, q = (3 * i + k) % 22 := ⟨_, rfl⟩
              have hj4 : j < 4 := by omega
              have hq21 : q ≤ 21 := by omega
              have HJ := Lib.hid (show Int.tmod ((i : Int) + (k : Int)) 4 = (j : Int) from by rw [Int.tmod_eq_emod_of_nonneg (by omega)]; omega)
              have HQ := Lib.hid (show Int.tmod (3 * (i : Int) + (k : Int)) 22 = (q : Int) from by rw [Int.tmod_eq_emod_of_nonneg (by omega)]; omega)
              obtain ⟨str, hstr, hss⟩ := strs4_get j hj4
              have HSTR := Lib.hid hstr
              have HBR := Lib.hid ((HALL12.out.kp0 HKR.out).take hq21)
              have hq21i : (q : Int) ≤ 21 := by omega
              have hq0i : (0 : Int) ≤ (q : Int) := by omega
              have hj0i : (0 : Int) ≤ (j : Int) := by omega
              have hj4i : (j : Int) < 4 := by omega
              clear hr1 hr2 hj hq hstr
              go_wp2_with fail
              refine wp_region_facts (by kernel_rfl) 134 [93, 94, 95, 96, 97, 98, 99, 100, 101, 102, 103, 104, 105, 106, 107, 108, 109, 110, 111, 112, 113, 114, 115, 116] [[], [], [93, 94], [95], [], [], [97, 98], [99], [], [], [], [102, 103], [104], [101, 105], [106], [], [], [109], [], [110, 111], [112], [108, 113], [96, 100, 107, 114], [115]] (by kernel_rfl) (by kernel_rfl) rfl (factOf [(93, .eq (.slice (some ⟨ra, 0, none⟩) 11 11)), (94, .eq (.int .i64 (i : Int))), (95, .eq (.pointer (some ⟨ra, i, none⟩))), (96, .eq (.slice A1' m1 d1)), (97, .eq (.slice (some ⟨rb, 0, none⟩) 9 9)), (98, .eq (.int .i64 (k : Int))), (99, .eq (.pointer (some ⟨rb, k, none⟩))), (100, .eq (.slice A2' m2 d2)), (101, SFact.vals 4 ([.string ⟨#[]⟩, .string ⟨#[0]⟩, .string ⟨#[4]⟩, .string ⟨#[255]⟩])), (102, .eq (.int .i64 (i : Int))), (103, .eq (.int .i64 (k : Int))), (104, .eq (.int .i64 ((i : Int) + (k : Int)))), (105, .eq (.int .i64 (j : Int))), (106, SFact.cellv (.string str)), (107, .eq (.string str)), (108, .eq (.slice (some ⟨ga, 0, none⟩) 21 21)), (109, .eq (.int .i64 (i : Int))), (110, .eq (.int .i64 (3 * (i : Int)))), (111, .eq (.int .i64 (k : Int))), (112, .eq (.int .i64 (3 * (i : Int) + (k : Int)))), (113, .eq (.int .i64 (q : Int))), (114, .eq (.slice (some ⟨ga, 0, none⟩) q 21)), (115, .eq (.bool true)), (116, .eq (.bool false))]) (factOf_stable _) _ (fun x => by simp only [fillL, Nat.reduceAdd, Nat.reduceEqDiff, ↓reduceIte]; rfl) ?_ ?_
              · refine ⟨?_, ?_, ?_, ?_, ?_, ?_, ?_, ?_, ?_, ?_, ?_, ?_, ?_, ?_, ?_, ?_, ?_, ?_, ?_, ?_, ?_, ?_, ?_, ?_, trivial⟩
                · intro fx w' fa hk hd ev  -- 93 = Op.move (Operand.tmp 6)
                  have e6 : fa.tmps[6]?.getD undef = .slice (some ⟨ra, 0, none⟩) 11 11 := ev.old 6 rfl
                  refine stepF_un rfl (fun K hK => ?_)
                  exact stepF_val _ hK (run_move rfl e6 _) rfl
                · intro fx w' fa hk hd ev  -- 94 = Op.move (Operand.tmp 8)
                  have e8 : fa.tmps[8]?.getD undef = .int .i64 (i : Int) := ev.old 8 rfl
                  refine stepF_un rfl (fun K hK => ?_)
                  exact stepF_val _ hK (run_move rfl e8 _) rfl
                · intro fx w' fa hk hd ev  -- 95 = Op.indexAddr 67 (Operand.tmp 93) (Operand.tmp 94)
                  have h93 : fx 93 = .slice (some ⟨ra, 0, none⟩) 11 11 := hd.1
                  have e93 : fa.tmps[93]?.getD undef = .slice (some ⟨ra, 0, none⟩) 11 11 := (ev.new 93 rfl).trans h93
                  have h94 : fx 94 = .int .i64 (i : Int) := hd.2.1
                  have e94 : fa.tmps[94]?.getD undef = .int .i64 (i : Int) := (ev.new 94 rfl).trans h94
                  refine stepF_un rfl (fun K hK => ?_)
                  go_simp
                  exact hK _ _ rfl (Kp.refl _ _)
                · intro fx w' fa hk hd ev  -- 96 = Op.load 23 (Operand.tmp 95)
                  have h95 : fx 95 = .pointer (some ⟨ra, i, none⟩) := hd.1
                  have e95 : fa.tmps[95]?.getD undef = .pointer (some ⟨ra, i, none⟩) := (ev.new 95 rfl).trans h95
                  refine stepF_un rfl (fun K hK => ?_)
                  have q9 := hk.cell hc1 (by simp)
                  go_simp
                  exact hK _ _ rfl (Kp.refl _ _)
                · intro fx w' fa hk hd ev  -- 97 = Op.move (Operand.tmp 7)
                  have e7 : fa.tmps[7]?.getD undef = .slice (some ⟨rb, 0, none⟩) 9 9 := ev.old 7 rfl
                  refine stepF_un rfl (fun K hK => ?_)
                  exact stepF_val _ hK (run_move rfl e7 _) rfl
                · intro fx w' fa hk hd ev  -- 98 = Op.move (Operand.tmp 9)
                  have e9 : fa.tmps[9]?.getD undef = .int .i64 (k : Int) := ev.old 9 rfl
                  refine stepF_un rfl (fun K hK => ?_)
                  exact stepF_val _ hK (run_move rfl e9 _) rfl
                · intro fx w' fa hk hd ev  -- 99 = Op.indexAddr 67 (Operand.tmp 97) (Operand.tmp 98)
                  have h97 : fx 97 = .slice (some ⟨rb, 0, none⟩) 9 9 := hd.1
                  have e97 : fa.tmps[97]?.getD undef = .slice (some ⟨rb, 0, none⟩) 9 9 := (ev.new 97 rfl).trans h97
                  have h98 : fx 98 = .int .i64 (k : Int) := hd.2.1
                  have e98 : fa.tmps[98]?.getD undef = .int .i64 (k : Int) := (ev.new 98 rfl).trans h98
                  refine stepF_un rfl (fun K hK => ?_)
                  go_simp
                  exact hK _ _ rfl (Kp.refl _ _)
                · intro fx w' fa hk hd ev  -- 100 = Op.load 23 (Operand.tmp 99)
                  have h99 : fx 99 = .pointer (some ⟨rb, k, none⟩) := hd.1
                  have e99 : fa.tmps[99]?.getD undef = .pointer (some ⟨rb, k, none⟩) := (ev.new 99 rfl).trans h99
                  refine stepF_un rfl (fun K hK => ?_)
                  have q9 := hk.cell hc2 (by simp)
                  go_simp
                  exact hK _ _ rfl (Kp.refl _ _)
                · intro fx w' fa hk hd ev  -- 101 = Op.buildSlice 22 4 #[(0, Operand.const (Value.string { data 
                  refine stepF_un rfl (fun K hK => ?_)
                  go_simp
                  exact hK _ _ (vals_new w' ([.string ⟨#[]⟩, .string ⟨#[0]⟩, .string ⟨#[4]⟩, .string ⟨#[255]⟩]) 9 4) ((Kp.refl _ _).alloc _)
                · intro fx w' fa hk hd ev  -- 102 = Op.move (Operand.tmp 8)
                  have e8 : fa.tmps[8]?.getD undef = .int .i64 (i : Int) := ev.old 8 rfl
                  refine stepF_un rfl (fun K hK => ?_)
                  exact stepF_val _ hK (run_move rfl e8 _) rfl
                · intro fx w' fa hk hd ev  -- 103 = Op.move (Operand.tmp 9)
                  have e9 : fa.tmps[9]?.getD undef = .int .i64 (k : Int) := ev.old 9 rfl
                  refine stepF_un rfl (fun K hK => ?_)
                  exact stepF_val _ hK (run_move rfl e9 _) rfl
                · intro fx w' fa hk hd ev  -- 104 = Op.binOp BinOp.add 3 (Operand.tmp 102) (Operand.tmp 103) 3
                  have h102 : fx 102 = .int .i64 (i : Int) := hd.1
                  have e102 : fa.tmps[102]?.getD undef = .int .i64 (i : Int) := (ev.new 102 rfl).trans h102
                  have h103 : fx 103 = .int .i64 (k : Int) := hd.2.1
                  have e103 : fa.tmps[103]?.getD undef = .int .i64 (k : Int) := (ev.new 103 rfl).trans h103
                  refine stepF_un rfl (fun K hK => ?_)
                  have q9 : IntKind.wrap .i64 ((i : Int) + (k : Int)) = (i : Int) + (k : Int) := by rw [IntKind.wrap_i64]; omega
                  go_simp
                  exact hK _ _ rfl (Kp.refl _ _)
                · intro fx w' fa hk hd ev  -- 105 = Op.binOp BinOp.rem 3 (Operand.tmp 104) (Operand.const (Value
                  have h104 : fx 104 = .int .i64 ((i : Int) + (k : Int)) := hd.1
                  have e104 : fa.tmps[104]?.getD undef = .int .i64 ((i : Int) + (k : Int)) := (ev.new 104 rfl).trans h104
                  refine stepF_un rfl (fun K hK => ?_)
                  have q9 := HJ.out
                  go_simp
                  exact hK _ _ rfl (Kp.refl _ _)
                · intro fx w' fa hk hd ev  -- 106 = Op.indexAddr 22 (Operand.tmp 101) (Operand.tmp 105)
                  have h101 : (SFact.vals 4 ([.string ⟨#[]⟩, .string ⟨#[0]⟩, .string ⟨#[4]⟩, .string ⟨#[255]⟩]) : SFact).p (fx 101) w' := hd.1
                  obtain ⟨A101, c101, v101, hc101, hr101⟩ := h101
                  have e101 : fa.tmps[101]?.getD undef = .slice A101 4 c101 := (ev.new 101 rfl).trans v101
                  have h105 : fx 105 = .int .i64 (j : Int) := hd.2.1
                  have e105 : fa.tmps[105]?.getD undef = .int .i64 (j : Int) := (ev.new 105 rfl).trans h105
                  refine stepF_un rfl (fun K hK => ?_)
                  obtain ⟨ad9, hA9, _, hcl9⟩ := hr101.at_ (i := j) (u := .string str) HSTR.out
                  subst hA9
                  go_simp
                  exact hK _ _ ⟨_, rfl, hcl9⟩ (Kp.refl _ _)
                · intro fx w' fa hk hd ev  -- 107 = Op.load 9 (Operand.tmp 106)
                  have h106 : (SFact.cellv (.string str) : SFact).p (fx 106) w' := hd.1
                  obtain ⟨ad106, v106, hc106⟩ := h106
                  have e106 : fa.tmps[106]?.getD undef = .pointer (some ad106) := (ev.new 106 rfl).trans v106
                  refine stepF_un rfl (fun K hK => ?_)
                  go_simp
                  exact hK _ _ rfl (Kp.refl _ _)
                · intro fx w' fa hk hd ev  -- 108 = Op.move (Operand.tmp 5)
                  have e5 : fa.tmps[5]?.getD undef = .slice (some ⟨ga, 0, none⟩) 21 21 := ev.old 5 rfl
                  refine stepF_un rfl (fun K hK => ?_)
                  exact stepF_val _ hK (run_move rfl e5 _) rfl
                · intro fx w' fa hk hd ev  -- 109 = Op.move (Operand.tmp 8)
                  have e8 : fa.tmps[8]?.getD undef = .int .i64 (i : Int) := ev.old 8 rfl
                  refine stepF_un rfl (fun K hK => ?_)
                  exact stepF_val _ hK (run_move rfl e8 _) rfl
                · intro fx w' fa hk hd ev  -- 110 = Op.binOp BinOp.mul 3 (Operand.const (Value.int IntKind.i64 3
                  have h109 : fx 109 = .int .i64 (i : Int) := hd.1
                  have e109 : fa.tmps[109]?.getD undef = .int .i64 (i : Int) := (ev.new 109 rfl).trans h109
                  refine stepF_un rfl (fun K hK => ?_)
                  have q9 : IntKind.wrap .i64 (3 * (i : Int)) = 3 * (i : Int) := by rw [IntKind.wrap_i64]; omega
                  go_simp
                  exact hK _ _ rfl (Kp.refl _ _)
                · intro fx w' fa hk hd ev  -- 111 = Op.move (Operand.tmp 9)
                  have e9 : fa.tmps[9]?.getD undef = .int .i64 (k : Int) := ev.old 9 rfl
                  refine stepF_un rfl (fun K hK => ?_)
                  exact stepF_val _ hK (run_move rfl e9 _) rfl
                · intro fx w' fa hk hd ev  -- 112 = Op.binOp BinOp.add 3 (Operand.tmp 110) (Operand.tmp 111) 3
                  have h110 : fx 110 = .int .i64 (3 * (i : Int)) := hd.1
                  have e110 : fa.tmps[110]?.getD undef = .int .i64 (3 * (i : Int)) := (ev.new 110 rfl).trans h110
                  have h111 : fx 111 = .int .i64 (k : Int) := hd.2.1
                  have e111 : fa.tmps[111]?.getD undef = .int .i64 (k : Int) := (ev.new 111 rfl).trans h111
                  refine stepF_un rfl (fun K hK => ?_)
                  have q9 : IntKind.wrap .i64 (3 * (i : Int) + (k : Int)) = 3 * (i : Int) + (k : Int) := by rw [IntKind.wrap_i64]; omega
                  go_simp
                  exact hK _ _ rfl (Kp.refl _ _)
                · intro fx w' fa hk hd ev  -- 113 = Op.binOp BinOp.rem 3 (Operand.tmp 112) (Operand.const (Value
                  have h112 : fx 112 = .int .i64 (3 * (i : Int) + (k : Int)) := hd.1
                  have e112 : fa.tmps[112]?.getD undef = .int .i64 (3 * (i : Int) + (k : Int)) := (ev.new 112 rfl).trans h112
                  refine stepF_un rfl (fun K hK => ?_)
                  have q9 := HQ.out
                  go_simp
                  exact hK _ _ rfl (Kp.refl _ _)
                · intro fx w' fa hk hd ev  -- 114 = Op.slice 31 (Operand.tmp 108) none (some (Operand.tmp 113)) 
                  have h108 : fx 108 = .slice (some ⟨ga, 0, none⟩) 21 21 := hd.1
                  have e108 : fa.tmps[108]?.getD undef = .slice (some ⟨ga, 0, none⟩) 21 21 := (ev.new 108 rfl).trans h108
                  have h113 : fx 113 = .int .i64 (q : Int) := hd.2.1
                  have e113 : fa.tmps[113]?.getD undef = .int .i64 (q : Int) := (ev.new 113 rfl).trans h113
                  refine stepF_un rfl (fun K hK => ?_)
                  go_simp
                  exact hK _ _ rfl (Kp.refl _ _)
                · intro fx w' fa hk hd ev  -- 115 = Op.call { callee := Callee.value (Operand.func 5), args := #
                  have h96 : fx 96 = .slice A1' m1 d1 := hd.1
                  have e96 : fa.tmps[96]?.getD undef = .slice A1' m1 d1 := (ev.new 96 rfl).trans h96
                  have h100 : fx 100 = .slice A2' m2 d2 := hd.2.1
                  have e100 : fa.tmps[100]?.getD undef = .slice A2' m2 d2 := (ev.new 100 rfl).trans h100
                  have h107 : fx 107 = .string str := hd.2.2.1
                  have e107 : fa.tmps[107]?.getD undef = .string str := (ev.new 107 rfl).trans h107
                  have h114 : fx 114 = .slice (some ⟨ga, 0, none⟩) q 21 := hd.2.2.2.1
                  have e114 : fa.tmps[114]?.getD undef = .slice (some ⟨ga, 0, none⟩) q 21 := (ev.new 114 rfl).trans h114
                  refine stepF_un rfl (fun K hK => ?_)
                  go_simp
                  refine (makes_i A1' A2' _ m1 m2 d1 d2 q 21 str w' (HR1.out.kp0 hk) (HR2.out.kp0 hk) (HBR.out.kp0 hk) hq21 hss (by omega)).mono ?_
                  rintro e w2 ⟨rfl, hk2⟩
                  exact hK _ _ rfl hk2
                · intro fx w' fa hk hd ev  -- 116 = Op.unOp UnOp.not 4 (Operand.tmp 115)
                  have h115 : fx 115 = .bool true := hd.1
                  have e115 : fa.tmps[115]?.getD undef = .bool true := (ev.new 115 rfl).trans h115
                  refine stepF_un rfl (fun K hK => ?_)
                  go_simp
                  exact hK _ _ rfl (Kp.refl _ _)
              · intro fx w' hk hd
                have h116 : fx 116 = .bool false := hd.2.2.2.2.2.2.2.2.2.2.2.2.2.2.2.2.2.2.2.2.2.2.2.1
                rw [h116]
                have HKN := Lib.hid (HKR.out.trans hk)
                clear hk hd hc1 hc2 HR1 HR2 HBR HKR
                go_wp2_with fail
                exact ⟨⟨k + 1, by go_num, by omega, HKN⟩, by simp [intOf]; omega⟩
            · obtain rfl : k = 9 := by omega
              go_wp2_with fail
              exact ⟨⟨i + 1, by go_num, by omega, HKR⟩, by simp [intOf]; omega⟩
        · obtain rfl : i = 11 := by omega
          have HALL := Lib.hid (HALL12.out.kp0 HKI.out)
          have HK := Lib.hid (HK12.out.trans HKI.out)
          clear HKI HRA HRB HALL12 HK12 hlt hi11
          go_wp2_with fail
          refine (atexts_any none none 0 0 0 0 0 0 [] ⟨#[]⟩ [] wr (Rd.nil _ _ _) (Rd.nil _ _ _) rfl rfl (by omega) (by omega) (by omega) (by omega) (by simp) (by decide) (by omega)).mono ?_
          rintro e w2 ⟨rfl, hk2⟩
          replace HALL := Lib.hid (HALL.out.kp0 hk2)
          replace HK := Lib.hid (HK.out.trans hk2)
          clear hk2
          go_wp2_with fail
          have hk3 : Kp [] w2 ((w2.alloc (.cells #[.string ⟨#[]⟩] 9)).alloc (.cells #[.bool false, .bool false, .bool true, .bool false] 4)) := ((Kp.refl [] w2).alloc _).alloc _
          have hr3 := (Rd.new w2 #[.string ⟨#[]⟩] 9 (0, 0)).kp0 ((Kp.refl [] (w2.alloc (.cells #[.string ⟨#[]⟩] 9))).alloc (.cells #[.bool false, .bool false, .bool true, .bool false] 4))
          have hr4 := Rd.new (w2.alloc (.cells #[.string ⟨#[]⟩] 9)) #[.bool false, .bool false, .bool true, .bool false] 4 (0, 0)
          rw [show (w2.alloc (.cells #[.string ⟨#[]⟩] 9)).heap.size = w2.heap.size + 1 from by simp] at hr4
          refine (atexts_any _ _ 1 1 4 4 _ _ [⟨#[]⟩] ⟨#[]⟩ [false, false, true, false] _ hr3 hr4 rfl rfl (by simp) (by simp) (by omega) (by omega) (by intro s hs; simp at hs; subst hs; decide) (by decide) (by omega)).mono ?_
          rintro e w3 ⟨rfl, hk4⟩
          replace HALL := Lib.hid (HALL.out.kp0 (hk3.trans hk4))
          replace HK := Lib.hid (HK.out.trans (hk3.trans hk4))
          clear hk3 hk4 hr3 hr4
          go_wp2_with fail
          have hk5 : Kp [] w3 (w3.alloc (.cells #[.string ⟨#[]⟩, .string ⟨#[97, 97, 97]⟩, .string ⟨#[98]⟩] 9)) := (Kp.refl [] w3).alloc _
          obtain ⟨bs, hb1, hb2⟩ := HALL.out.kp0 hk5
          refine (atexts_any _ _ 3 3 21 21 _ _ [⟨#[]⟩, ⟨#[97, 97, 97]⟩, ⟨#[98]⟩] ⟨#[97, 98]⟩ bs _ (Rd.new w3 #[.string ⟨#[]⟩, .string ⟨#[97, 97, 97]⟩, .string ⟨#[98]⟩] 9 (0, 0)) hb1 rfl hb2 (by simp) (Nat.le_refl _) (by omega) (by omega) (by intro s hs; simp at hs; rcases hs with rfl | rfl | rfl <;> decide) (by decide) (by omega)).mono ?_
          rintro e w4 ⟨rfl, hk6⟩
          replace HK := Lib.hid (HK.out.trans (hk5.trans hk6))
          clear hk5 hk6 hb1 hb2 HALL
          go_wp2_with fail
          refine (none6_any w4).mono ?_
          rintro e w5 ⟨rfl, hk7⟩
          replace HK := Lib.hid (HK.out.trans hk7)
          clear hk7
          go_wp2_with fail
          refine (awake_a w5).mono ?_
          rintro e w6 ⟨rfl, hk8⟩
          replace HK := Lib.hid (HK.out.trans hk8)
          clear hk8
          go_wp2_with fail
          go_ret
          exact ⟨rfl, HK.out⟩
end Go.Proofs.Ytpmdfklhgabfgaa
