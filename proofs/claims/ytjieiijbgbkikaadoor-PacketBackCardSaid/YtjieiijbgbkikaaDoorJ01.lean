/- Lemmas of a proof over the given program, joined by wip/join.py: KBase KSlice KRow KMem KStr. -/
import Derived.WalkKit
import Derived.WalkLawsBesides
import Derived.WalkSpells
import Derived.LoopTactic
import Derived.Lib.Hide
import Derived.StillTailTactics
import Derived.Deep.WholeRow
import Derived.WalkSmall
import Derived.Laws.MakeOwn
import Derived.Laws.CopyOwn
import Derived.Laws.AppendOwnNone
import Derived.Laws.BytesArg
set_option linter.unusedSimpArgs false
set_option linter.unusedVariables false
section
/- General lemmas: rows of integers in memory, words for worlds. No program is used here. -/
namespace Go.Proofs.YtjieiijbgbkikaaDoor
open Go Go.RowKit

/-- The i-th number of a list (0 behind its end). A name of its own, which the walk does not open. -/
def nth (l : List Int) (i : Nat) : Int := l.getD i 0
theorem nth_lt {l : List Int} {i : Nat} (h : i < l.length) : nth l i = l[i] := by simp [nth, h]
theorem nth_ge {l : List Int} {i : Nat} (h : l.length ≤ i) : nth l i = 0 := by simp [nth, h]
theorem nth_mem {l : List Int} {i : Nat} (h : i < l.length) : nth l i ∈ l := by rw [nth_lt h]; exact List.getElem_mem h
theorem nth_set_eq {l : List Int} {i : Nat} (x : Int) (h : i < l.length) : nth (l.set i x) i = x := by simp [nth, h]
theorem nth_set_ne {l : List Int} {i j : Nat} (x : Int) (h : i ≠ j) : nth (l.set i x) j = nth l j := by simp [nth, h]
theorem nth_append_lt {a b : List Int} {i : Nat} (h : i < a.length) : nth (a ++ b) i = nth a i := by simp [nth, List.getElem?_append_left h]
theorem nth_append_ge {a b : List Int} {i : Nat} (h : a.length ≤ i) : nth (a ++ b) i = nth b (i - a.length) := by simp [nth, List.getElem?_append_right h]
theorem nth_drop (l : List Int) (n i : Nat) : nth (l.drop n) i = nth l (n + i) := by simp [nth]
theorem nth_take {l : List Int} {n i : Nat} (h : i < n) : nth (l.take n) i = nth l i := by simp [nth, List.getElem?_take_of_lt h]
theorem ext_nth {a b : List Int} (hl : a.length = b.length) (h : ∀ i, i < a.length → nth a i = nth b i) : a = b :=
  List.ext_getElem hl fun i h1 h2 => by have := h i h1; rwa [nth_lt h1, nth_lt h2] at this

/-- A row of integers of one kind. -/
def ints (k : IntKind) (v : List Int) : Array Value := (v.map (Value.int k)).toArray
@[simp, go_sem] theorem size_ints (k : IntKind) (v : List Int) : (ints k v).size = v.length := by simp [ints]
theorem get_ints (k : IntKind) (v : List Int) (i : Nat) : (ints k v)[i]? = (v[i]?).map (Value.int k) := by simp [ints]
@[simp, go_sem] theorem set_ints (k : IntKind) (v : List Int) (i : Nat) (x : Int) : (ints k v).setIfInBounds i (.int k x) = ints k (v.set i x) := by
  simp [ints, List.map_set]
@[go_sem] theorem get_ints_lt (k : IntKind) (v : List Int) (i : Nat) (h : i < v.length) : (ints k v)[i]? = some (.int k (nth v i)) := by
  rw [get_ints, nth_lt h]; simp [h]
@[go_sem] theorem getElem_ints (k : IntKind) (v : List Int) (i : Nat) (h : i < (ints k v).size) : (ints k v)[i] = .int k (nth v i) := by
  have h' : i < v.length := by simpa using h
  rw [nth_lt h']; simp [ints]
theorem extract_ints (k : IntKind) (v : List Int) (a b : Nat) : (ints k v).extract a b = ints k ((v.drop a).take (b - a)) := by
  simp [ints, List.extract_toArray, List.map_take, List.map_drop]
theorem ints_append (k : IntKind) (a b : List Int) : ints k a ++ ints k b = ints k (a ++ b) := by simp [ints]
theorem ints_inj {k : IntKind} {a b : List Int} (h : ints k a = ints k b) : a = b := by
  have h' : a.map (Value.int k) = b.map (Value.int k) := by simpa [ints] using h
  exact (List.map_inj_right (fun x y e => by cases e; rfl)).1 h'
theorem oneCell_ints (k : IntKind) (v : List Int) : (ints k v).all (·.oneCell') = true := by
  rw [Array.all_eq_true_iff_forall_mem]; intro x hx; simp [ints] at hx; obtain ⟨y, _, rfl⟩ := hx; rfl
theorem cell_ints {w : World} {b : Nat} {k : IntKind} {l : List Int} {T : TypeId} {fr : Nat × Nat} (hb : w.heap[b]? = some (.cells (ints k l) T fr))
    {i : Nat} (hi : i < l.length) : w.cell? ⟨b, i, none⟩ = some (.int k (nth l i)) := by
  rw [cell_of_row w b i _ T fr hb, get_ints_lt k l i hi]

/-- All numbers of a list lie in [0, m). -/
def Bd (m : Int) (l : List Int) : Prop := ∀ i, 0 ≤ nth l i ∧ nth l i < m
theorem Bd.of_mem {m : Int} {l : List Int} (hm : 0 < m) (h : ∀ x ∈ l, 0 ≤ x ∧ x < m) : Bd m l := by
  intro i
  by_cases hi : i < l.length
  · exact h _ (nth_mem hi)
  · rw [nth_ge (Nat.le_of_not_lt hi)]; exact ⟨Int.le_refl 0, hm⟩
theorem Bd.mem {m : Int} {l : List Int} (h : Bd m l) : ∀ x ∈ l, 0 ≤ x ∧ x < m := by
  intro x hx
  obtain ⟨i, hi, rfl⟩ := List.mem_iff_getElem.1 hx
  have := h i
  rwa [nth_lt hi] at this
theorem Bd.set {m : Int} {l : List Int} (h : Bd m l) (i : Nat) (x : Int) (h0 : 0 ≤ x) (h1 : x < m) : Bd m (l.set i x) := by
  refine .of_mem (by omega) fun y hy => ?_
  rcases List.mem_or_eq_of_mem_set hy with h' | h'
  · exact h.mem y h'
  · subst h'; exact ⟨h0, h1⟩
theorem Bd.append {m : Int} {a b : List Int} (hm : 0 < m) (ha : Bd m a) (hb : Bd m b) : Bd m (a ++ b) :=
  .of_mem hm fun x hx => by rcases List.mem_append.1 hx with h | h
                            · exact ha.mem x h
                            · exact hb.mem x h
theorem Bd.take {m : Int} {a : List Int} (hm : 0 < m) (ha : Bd m a) (n : Nat) : Bd m (a.take n) := .of_mem hm fun x hx => ha.mem x (List.mem_of_mem_take hx)
theorem Bd.drop {m : Int} {a : List Int} (hm : 0 < m) (ha : Bd m a) (n : Nat) : Bd m (a.drop n) := .of_mem hm fun x hx => ha.mem x (List.mem_of_mem_drop hx)
theorem Bd.nil {m : Int} (hm : 0 < m) : Bd m [] := .of_mem hm fun x hx => by simp at hx
theorem Bd.cons {m x : Int} {l : List Int} (h0 : 0 ≤ x) (h1 : x < m) (h : Bd m l) : Bd m (x :: l) := .of_mem (by omega) fun y hy => by
  rcases List.mem_cons.1 hy with e | e
  · subst e; exact ⟨h0, h1⟩
  · exact h.mem y e
theorem Bd.zeros {m : Int} (hm : 0 < m) (n : Nat) : Bd m (List.replicate n 0) := .of_mem hm fun x hx => by
  rw [List.eq_of_mem_replicate hx]; exact ⟨Int.le_refl 0, hm⟩

/-- Noughts: a name of its own, which the walk does not open. -/
def zerosL (n : Nat) : List Int := List.replicate n 0
theorem zerosL_len (n : Nat) : (zerosL n).length = n := by simp [zerosL]
theorem Bd.zerosL {m : Int} (hm : 0 < m) (n : Nat) : Bd m (zerosL n) := Bd.zeros hm n

/-! Worlds written out: draws outermost; whole rows. -/
@[go_sem] theorem alloc_drewN (w : World) (n : Nat) (o : Obj) : (w.drewN n).alloc o = (w.alloc o).drewN n := rfl
@[go_sem] theorem setCell_drewN (w : World) (n : Nat) (a : Addr) (v : Value) : (w.drewN n).setCell a v = (w.setCell a v).drewN n := rfl
@[go_sem] theorem setRow_drewN (w : World) (n : Nat) (g : Nat) (cs : Array Value) : (w.drewN n).setRow g cs = (w.setRow g cs).drewN n := rfl
@[go_sem] theorem heap_alloc_at (w : World) (o : Obj) (i : Nat) (h : i = w.heap.size) : (w.alloc o).heap[i]? = some o := by subst h; exact heap_alloc_new w o
@[go_sem] theorem heap_alloc_past (w : World) (o : Obj) (i : Nat) (h : i < w.heap.size) : (w.alloc o).heap[i]? = w.heap[i]? := Below.heap_alloc w o i h
@[go_sem] theorem setRow_alloc_at (w : World) (c c' : Array Value) (t : TypeId) (n : Nat) (h : n = w.heap.size) : (w.alloc (.cells c t)).setRow n c' = w.alloc (.cells c' t) := by
  subst h; exact World.setRow_alloc_new w c c' t
@[go_sem] theorem setRow_alloc_past (w : World) (o : Obj) (n : Nat) (c : Array Value) (h : n < w.heap.size) : (w.alloc o).setRow n c = (w.setRow n c).alloc o := by
  unfold World.setRow World.alloc
  congr 1
  apply Array.ext_getElem?
  intro k
  simp only [Array.getElem?_modify, Array.getElem?_push, Array.size_modify]
  by_cases hk : k = w.heap.size
  · subst hk; simp [Nat.ne_of_lt h]
  · simp [hk]

/-! The i-th of the blocks that were made last. -/
theorem blk1_0 (w : World) (A : Obj) : (w.alloc A).heap[w.heap.size]? = some A :=
  heap_alloc_at _ _ _ (by simp)
theorem blk2_0 (w : World) (A B : Obj) : ((w.alloc A).alloc B).heap[w.heap.size]? = some A :=
  (heap_alloc_past _ _ _ (by simp; try omega)).trans (heap_alloc_at _ _ _ (by simp))
theorem blk2_1 (w : World) (A B : Obj) : ((w.alloc A).alloc B).heap[w.heap.size + 1]? = some B :=
  heap_alloc_at _ _ _ (by simp)
theorem blk3_0 (w : World) (A B C : Obj) : (((w.alloc A).alloc B).alloc C).heap[w.heap.size]? = some A :=
  (heap_alloc_past _ _ _ (by simp; try omega)).trans ((heap_alloc_past _ _ _ (by simp; try omega)).trans (heap_alloc_at _ _ _ (by simp)))
theorem blk3_1 (w : World) (A B C : Obj) : (((w.alloc A).alloc B).alloc C).heap[w.heap.size + 1]? = some B :=
  (heap_alloc_past _ _ _ (by simp; try omega)).trans (heap_alloc_at _ _ _ (by simp))
theorem blk3_2 (w : World) (A B C : Obj) : (((w.alloc A).alloc B).alloc C).heap[w.heap.size + 1 + 1]? = some C :=
  heap_alloc_at _ _ _ (by simp)
theorem blk4_0 (w : World) (A B C D : Obj) : ((((w.alloc A).alloc B).alloc C).alloc D).heap[w.heap.size]? = some A :=
  (heap_alloc_past _ _ _ (by simp; try omega)).trans ((heap_alloc_past _ _ _ (by simp; try omega)).trans ((heap_alloc_past _ _ _ (by simp; try omega)).trans (heap_alloc_at _ _ _ (by simp))))
theorem blk4_1 (w : World) (A B C D : Obj) : ((((w.alloc A).alloc B).alloc C).alloc D).heap[w.heap.size + 1]? = some B :=
  (heap_alloc_past _ _ _ (by simp; try omega)).trans ((heap_alloc_past _ _ _ (by simp; try omega)).trans (heap_alloc_at _ _ _ (by simp)))
theorem blk4_2 (w : World) (A B C D : Obj) : ((((w.alloc A).alloc B).alloc C).alloc D).heap[w.heap.size + 1 + 1]? = some C :=
  (heap_alloc_past _ _ _ (by simp; try omega)).trans (heap_alloc_at _ _ _ (by simp))
theorem blk4_3 (w : World) (A B C D : Obj) : ((((w.alloc A).alloc B).alloc C).alloc D).heap[w.heap.size + 1 + 1 + 1]? = some D :=
  heap_alloc_at _ _ _ (by simp)
theorem blk5_0 (w : World) (A B C D E : Obj) : (((((w.alloc A).alloc B).alloc C).alloc D).alloc E).heap[w.heap.size]? = some A :=
  (heap_alloc_past _ _ _ (by simp; try omega)).trans ((heap_alloc_past _ _ _ (by simp; try omega)).trans ((heap_alloc_past _ _ _ (by simp; try omega)).trans ((heap_alloc_past _ _ _ (by simp; try omega)).trans (heap_alloc_at _ _ _ (by simp)))))
theorem blk5_1 (w : World) (A B C D E : Obj) : (((((w.alloc A).alloc B).alloc C).alloc D).alloc E).heap[w.heap.size + 1]? = some B :=
  (heap_alloc_past _ _ _ (by simp; try omega)).trans ((heap_alloc_past _ _ _ (by simp; try omega)).trans ((heap_alloc_past _ _ _ (by simp; try omega)).trans (heap_alloc_at _ _ _ (by simp))))
theorem blk5_2 (w : World) (A B C D E : Obj) : (((((w.alloc A).alloc B).alloc C).alloc D).alloc E).heap[w.heap.size + 1 + 1]? = some C :=
  (heap_alloc_past _ _ _ (by simp; try omega)).trans ((heap_alloc_past _ _ _ (by simp; try omega)).trans (heap_alloc_at _ _ _ (by simp)))
theorem blk5_3 (w : World) (A B C D E : Obj) : (((((w.alloc A).alloc B).alloc C).alloc D).alloc E).heap[w.heap.size + 1 + 1 + 1]? = some D :=
  (heap_alloc_past _ _ _ (by simp; try omega)).trans (heap_alloc_at _ _ _ (by simp))
theorem blk5_4 (w : World) (A B C D E : Obj) : (((((w.alloc A).alloc B).alloc C).alloc D).alloc E).heap[w.heap.size + 1 + 1 + 1 + 1]? = some E :=
  heap_alloc_at _ _ _ (by simp)
theorem blk6_0 (w : World) (A B C D E F : Obj) : ((((((w.alloc A).alloc B).alloc C).alloc D).alloc E).alloc F).heap[w.heap.size]? = some A :=
  (heap_alloc_past _ _ _ (by simp; try omega)).trans ((heap_alloc_past _ _ _ (by simp; try omega)).trans ((heap_alloc_past _ _ _ (by simp; try omega)).trans ((heap_alloc_past _ _ _ (by simp; try omega)).trans ((heap_alloc_past _ _ _ (by simp; try omega)).trans (heap_alloc_at _ _ _ (by simp))))))
theorem blk6_1 (w : World) (A B C D E F : Obj) : ((((((w.alloc A).alloc B).alloc C).alloc D).alloc E).alloc F).heap[w.heap.size + 1]? = some B :=
  (heap_alloc_past _ _ _ (by simp; try omega)).trans ((heap_alloc_past _ _ _ (by simp; try omega)).trans ((heap_alloc_past _ _ _ (by simp; try omega)).trans ((heap_alloc_past _ _ _ (by simp; try omega)).trans (heap_alloc_at _ _ _ (by simp)))))
theorem blk6_2 (w : World) (A B C D E F : Obj) : ((((((w.alloc A).alloc B).alloc C).alloc D).alloc E).alloc F).heap[w.heap.size + 1 + 1]? = some C :=
  (heap_alloc_past _ _ _ (by simp; try omega)).trans ((heap_alloc_past _ _ _ (by simp; try omega)).trans ((heap_alloc_past _ _ _ (by simp; try omega)).trans (heap_alloc_at _ _ _ (by simp))))
theorem blk6_3 (w : World) (A B C D E F : Obj) : ((((((w.alloc A).alloc B).alloc C).alloc D).alloc E).alloc F).heap[w.heap.size + 1 + 1 + 1]? = some D :=
  (heap_alloc_past _ _ _ (by simp; try omega)).trans ((heap_alloc_past _ _ _ (by simp; try omega)).trans (heap_alloc_at _ _ _ (by simp)))
theorem blk6_4 (w : World) (A B C D E F : Obj) : ((((((w.alloc A).alloc B).alloc C).alloc D).alloc E).alloc F).heap[w.heap.size + 1 + 1 + 1 + 1]? = some E :=
  (heap_alloc_past _ _ _ (by simp; try omega)).trans (heap_alloc_at _ _ _ (by simp))
theorem blk6_5 (w : World) (A B C D E F : Obj) : ((((((w.alloc A).alloc B).alloc C).alloc D).alloc E).alloc F).heap[w.heap.size + 1 + 1 + 1 + 1 + 1]? = some F :=
  heap_alloc_at _ _ _ (by simp)
theorem heap_size_drewN (w : World) (n : Nat) : (w.drewN n).heap.size = w.heap.size := rfl

/-- A struct's or an array's description. -/
def isRow : TypeDesc → Bool
  | .struct _ | .array _ _ => true
  | _ => false
/-! HEAP MODE: a cell is read off its block; what a block holds is told by hypotheses 'w.heap[b]? = some (.cells ..)'. To be made rules of the walk where wanted: 'attribute [local go_sem] cell?_eq frozen?_eq heap_setCell_eq heap_setCell_ne'. -/
def cellOf : Option Obj → Nat → Option Value
  | some (.cells c _ _), o => c[o]?
  | _, _ => none
@[go_sem] theorem cellOf_some (c : Array Value) (t : TypeId) (fr : Nat × Nat) (o : Nat) : cellOf (some (.cells c t fr)) o = c[o]? := rfl
def frozenOf : Option Obj → Nat → Bool
  | some (.cells _ _ (lo, hi)), o => lo ≤ o && o < hi
  | _, _ => false
@[go_sem] theorem frozenOf_some (c : Array Value) (t : TypeId) (o : Nat) : frozenOf (some (.cells c t (0, 0))) o = false := by simp [frozenOf]
theorem cell?_eq (w : World) (b o : Nat) : w.cell? ⟨b, o, none⟩ = cellOf w.heap[b]? o := by
  unfold World.cell? cellOf
  split <;> simp_all
theorem frozen?_eq (w : World) (b o : Nat) : w.frozen? ⟨b, o, none⟩ = frozenOf w.heap[b]? o := by
  unfold World.frozen? frozenOf
  split <;> simp_all
def putOf : Option Obj → Nat → Value → Option Obj
  | some (.cells c t fr), o, v => some (.cells (c.setIfInBounds o v) t fr)
  | x, _, _ => x
@[go_sem] theorem putOf_some (c : Array Value) (t : TypeId) (fr : Nat × Nat) (o : Nat) (v : Value) : putOf (some (.cells c t fr)) o v = some (.cells (c.setIfInBounds o v) t fr) := rfl
theorem heap_setCell_eq (w : World) (b o : Nat) (v : Value) : (w.setCell ⟨b, o, none⟩ v).heap[b]? = putOf w.heap[b]? o v := by
  simp only [World.setCell, Array.getElem?_modify, ↓reduceIte]
  cases w.heap[b]? with
  | none => rfl
  | some x => cases x <;> rfl
theorem heap_setCell_ne (w : World) (a : Addr) (b : Nat) (v : Value) (h : b ≠ a.block) : (w.setCell a v).heap[b]? = w.heap[b]? := heap_setCell_other w a b v h
attribute [go_sem] setRow_setRow heap_drew
theorem heap_setCell_ne' (w : World) (g o b : Nat) (v : Value) (h : b ≠ g) : (w.setCell ⟨g, o, none⟩ v).heap[b]? = w.heap[b]? := heap_setCell_other w ⟨g, o, none⟩ b v h
@[go_sem] theorem heap_setRow_ne (w : World) (g b : Nat) (c : Array Value) (h : b ≠ g) : (w.setRow g c).heap[b]? = w.heap[b]? := setRow_other w g b c h

/-- Only the count of draws has turned. -/
def Quiet (w w' : World) : Prop := ∃ n, w' = w.drewN n
theorem Quiet.refl (w : World) : Quiet w w := ⟨0, rfl⟩
theorem Quiet.trans {a b c : World} (h : Quiet a b) (k : Quiet b c) : Quiet a c := by
  obtain ⟨n, rfl⟩ := h; obtain ⟨m, rfl⟩ := k; exact ⟨n + m, World.drewN_drewN ..⟩
theorem Quiet.heap {a b : World} (h : Quiet a b) : b.heap = a.heap := by
  obtain ⟨n, rfl⟩ := h; rfl
theorem Quiet.drew (a : World) : Quiet a a.drew := ⟨1, rfl⟩
theorem Quiet.below {a b : World} (h : Quiet a b) (B : Nat) : Below B a b := by
  obtain ⟨n, rfl⟩ := h; exact below_drewN (Below.refl B a) n

section
variable {P : Program} {ops : Array Oper} {rest : List Oper} {o : Oper} {a : Act} {w : World} {Q : Exit → Act → World → Prop}
/-- A whole array of integers read out of its block. -/
theorem ld_ints (hgd : o.guard = none) {ty : TypeId} {x : Operand} (ho : o.op = .load ty x) {g : Nat} (hx : a.eval x = .pointer (some ⟨g, 0, none⟩))
    {t : TypeId} {k : IntKind} {l : List Int} {fr : Nat × Nat} (hg : w.heap[g]? = some (.cells (ints k l) t fr)) {n : Nat} {e : TypeId}
    (hu : P.underlying ty = some (.array n e)) (hi : (P.info? ty).map (·.size) = some n) (hl : l.length = n)
    (h : wpList P ops Q rest (a.put o.dst (.agg (ints k l))) w) : wpList P ops Q (o :: rest) a w :=
  wpList_load_row hgd ty x ho g hx t _ fr _ hg hu rfl (by rw [hi, size_ints, hl]) h
/-- A whole row of whatever cells read out of its block. -/
theorem ld_row (hgd : o.guard = none) {ty : TypeId} {x : Operand} (ho : o.op = .load ty x) {g : Nat} (hx : a.eval x = .pointer (some ⟨g, 0, none⟩))
    {t : TypeId} {cs : Array Value} {fr : Nat × Nat} (hg : w.heap[g]? = some (.cells cs t fr)) {d : TypeDesc}
    (hu : P.underlying ty = some d) (hd : isRow d = true) {n : Nat} (hi : (P.info? ty).map (·.size) = some n) (hl : cs.size = n)
    (h : wpList P ops Q rest (a.put o.dst (.agg cs)) w) : wpList P ops Q (o :: rest) a w :=
  by cases d <;> first | exact wpList_load_row hgd ty x ho g hx t _ fr _ hg hu rfl (by rw [hi, hl]) h | (simp [isRow] at hd)
/-- A whole row of cells laid into its block. -/
theorem st_row (hgd : o.guard = none) {ty : TypeId} {x y : Operand} (ho : o.op = .store ty x y) {g : Nat} {cs : Array Value} (hx : a.eval x = .pointer (some ⟨g, 0, none⟩)) (hy : a.eval y = .agg cs)
    {t : TypeId} {old : Array Value} (hg : w.heap[g]? = some (.cells old t (0, 0))) {n : Nat} (hi : (P.info? ty).map (·.size) = some n)
    (hold : old.size = n) (hcs : cs.size = n) (h1 : cs.all (·.oneCell') = true)
    (h : wpList P ops Q rest (a.put o.dst undef) (w.setRow g cs)) : wpList P ops Q (o :: rest) a w :=
  wpList_store_row hgd ty x y ho g cs hx hy t old hg (by rw [hi, hcs]) (by omega) h1 h
end
section
variable {P : Program} {ops : Array Oper} {rest : List Oper} {o : Oper} {a : Act} {w : World} {Q : Exit → Act → World → Prop}
/-- A new variable of a type whose zero value is a row. -/
theorem al_row (hgd : o.guard = none) {T : TypeId} (ho : o.op = .alloc T) {cs : Array Value} (hz : (P.info? T).map (·.zero) = some (some (.agg cs)))
    (h : wpList P ops Q rest (a.put o.dst (.pointer (some ⟨w.heap.size, 0, none⟩))) (w.alloc (.cells cs T))) : wpList P ops Q (o :: rest) a w := by
  refine wpList_plain hgd fun K hK => ?_
  cases hq : P.info? T with
  | none => simp [hq] at hz
  | some i =>
    have hz' : i.zero = some (.agg cs) := by simpa [hq] using hz
    unfold Oper.wp execOp
    simp only [ho]
    simp [Instr.alloc, zeroValue, typeInfo, hq, hz', newVar, newRow, newObj, Sem.run, Value.cells]
    exact hK _ _ h
end
theorem eval_row {fn : Func} {p : Tmp} {ty : TypeId} (P : Program) (h : fn.results = #[.cell p ty]) (tmps : Array Value) (w : World) (g : Nat) (t : TypeId) (cs : Array Value) (fr : Nat × Nat) (d : TypeDesc)
    (hp : tmps.getD p undef = .pointer (some ⟨g, 0, none⟩)) (hg : w.heap[g]? = some (.cells cs t fr)) (hu : P.underlying ty = some d)
    (hd : isRow d = true) {n : Nat} (hi : (P.info? ty).map (·.size) = some n) (hl : cs.size = n) :
    (results fn tmps).run P w = .ok (.agg cs) w :=
  by cases d <;> first | exact results_cell_row h tmps w g t cs fr _ hp hg hu rfl (by rw [hi, hl]) | (simp [isRow] at hd)
/-- The end of a function whose one result lies in a block: a whole row. -/
theorem end_row {P : Program} {fn : Func} {R : Ending → World → Prop} {a : Act} {w : World} {p : Tmp} {ty : TypeId} (h : fn.results = #[.cell p ty]) {g : Nat}
    (hp : a.tmps.getD p undef = .pointer (some ⟨g, 0, none⟩)) {t : TypeId} {cs : Array Value} {fr : Nat × Nat} (hg : w.heap[g]? = some (.cells cs t fr)) {d : TypeDesc} (hu : P.underlying ty = some d)
    (hd : isRow d = true) {n : Nat} (hi : (P.info? ty).map (·.size) = some n) (hl : cs.size = n) (hdf : a.defers = [])
    (hR : R (.returned (.agg cs)) w) : bodyPost P fn R .ret a w :=
  bodyPost_ret (eval_row P h a.tmps w g t cs fr d hp hg hu hd hi hl) hdf hR

theorem belowRow {B g : Nat} {w0 w : World} (hb : Below B w0 w) (hBg : B ≤ g) (cs : Array Value) : Below B w0 (w.setRow g cs) :=
  hb.trans ⟨rfl, rfl, rfl, by simp, fun k hk => setRow_other w g k cs (by omega)⟩
section
variable {P : Program}
/-- x[i] of an array of plain numbers, by value. -/
theorem run_index_ints {T e : TypeId} {n : Nat} {k : IntKind} (hu : P.underlying T = some (.array n e)) (he : P.underlying e = some (.int k)) (hs : (P.info? e).map (·.size) = some 1)
    (l : List Int) (i : Nat) (hi : i < n) (hl : i < l.length) (w : World) : (Instr.index T (.agg (ints k l)) (.int .i64 i)).run P w = .ok (.int k (nth l i)) w := by
  cases hq : P.info? e with
  | none => simp [hq] at hs
  | some q =>
    have hs' : q.size = 1 := by simpa [hq] using hs
    have h1 : (i : Int) < (n : Int) := by omega
    have hg := get_ints_lt k l i hl
    simp only [Instr.index, asIntOf, Sem.run_bind, Sem.run_pure, Result.andThen, run_underlying hu]
    simp [h1, sizeOf, typeInfo, hq, hs', part, isAgg, run_underlying he, hg]
/-- x[i] of an array of arrays of plain numbers, by value. -/
theorem run_index_rows {T e e' : TypeId} {n m : Nat} {k : IntKind} (hu : P.underlying T = some (.array n e)) (he : P.underlying e = some (.array m e')) (hs : (P.info? e).map (·.size) = some m)
    (l : List Int) (i : Nat) (hi : i < n) (w : World) : (Instr.index T (.agg (ints k l)) (.int .i64 i)).run P w = .ok (.agg (ints k ((l.drop (i * m)).take m))) w := by
  cases hq : P.info? e with
  | none => simp [hq] at hs
  | some q =>
    have hs' : q.size = m := by simpa [hq] using hs
    have h1 : (i : Int) < (n : Int) := by omega
    simp only [Instr.index, asIntOf, Sem.run_bind, Sem.run_pure, Result.andThen, run_underlying hu]
    simp [h1, sizeOf, typeInfo, hq, hs', part, isAgg, run_underlying he, extract_ints]
theorem run_storeAt_int {ty : TypeId} (hs : (P.info? ty).map (·.size) = some 1) {w : World} {g i : Nat} {k : IntKind} {l : List Int} {t : TypeId} (hg : w.heap[g]? = some (.cells (ints k l) t (0, 0)))
    (hi : i < l.length) (v : Int) : (Instr.storeAt ty (.pointer (some ⟨g, i, none⟩)) (.int k v)).run P w = .ok () (w.setRow g (ints k (l.set i v))) := by
  cases hq : P.info? ty with
  | none => simp [hq] at hs
  | some q =>
    have hs' : q.size = 1 := by simpa [hq] using hs
    have hc : w.cell? ⟨g, i, none⟩ = some (.int k (nth l i)) := by rw [cell_of_row w g i _ t _ hg, get_ints_lt k l i hi]
    have hf : w.frozen? ⟨g, i, none⟩ = false := frozen_of_row w g i _ t hg
    have he := setCell_eq_setRow w g i (ints k l) t (0, 0) (.int k v) hg
    rw [set_ints] at he
    simp [Instr.storeAt, Instr.sureAddr, storeVar, sizeOf, typeInfo, hq, hs', Value.cells, storeCells, Addr.add, store, Sem.run, hc, hf, he]
theorem wp_st_int {o : Oper} {a : Act} {w : World} {K : Act → World → Prop} {Q : Exit → Act → World → Prop} {ty : TypeId} {x y : Operand} (ho : o.op = .store ty x y) {g i : Nat} {k : IntKind} {v : Int}
    (hx : a.eval x = .pointer (some ⟨g, i, none⟩)) (hy : a.eval y = .int k v) (hs : (P.info? ty).map (·.size) = some 1) {l : List Int} {t : TypeId} (hg : w.heap[g]? = some (.cells (ints k l) t (0, 0)))
    (hi : i < l.length) (h : K (a.put o.dst undef) (w.setRow g (ints k (l.set i v)))) : o.wp P a w K Q := by
  unfold Oper.wp execOp
  simp only [ho, hx, hy, Sem.run_bind, run_storeAt_int hs hg hi, Result.andThen_ok]
  exact h
theorem st_int {ops : Array Oper} {rest : List Oper} {o : Oper} {a : Act} {w : World} {Q : Exit → Act → World → Prop} (hgd : o.guard = none) {ty : TypeId} {x y : Operand} (ho : o.op = .store ty x y) {g i : Nat} {k : IntKind} {v : Int}
    (hx : a.eval x = .pointer (some ⟨g, i, none⟩)) (hy : a.eval y = .int k v) (hs : (P.info? ty).map (·.size) = some 1) {l : List Int} {t : TypeId} (hg : w.heap[g]? = some (.cells (ints k l) t (0, 0)))
    (hi : i < l.length) (h : wpList P ops Q rest (a.put o.dst undef) (w.setRow g (ints k (l.set i v)))) : wpList P ops Q (o :: rest) a w :=
  wpList_plain hgd fun _ hK => wp_st_int ho hx hy hs hg hi (hK _ _ h)
end
end Go.Proofs.YtjieiijbgbkikaaDoor
end
section
/- Slices of integers: what a slice value reads as, what a call owns; making, appending. No program is used here. -/
namespace Go.Proofs.YtjieiijbgbkikaaDoor
open Go Go.RowKit

/-- The slice that begins at p reads as the numbers l in w (an empty one may begin anywhere). -/
def SL (k : IntKind) (w : World) (p : Option Addr) (l : List Int) : Prop :=
  l = [] ∨ ∃ b off, p = some ⟨b, off, none⟩ ∧ ∀ i, i < l.length → w.cell? ⟨b, off + i, none⟩ = some (.int k (nth l i))
theorem SL.nil (k : IntKind) (w : World) (p : Option Addr) : SL k w p [] := .inl rfl
theorem SL.open {k : IntKind} {w : World} {p : Option Addr} {l : List Int} (h : SL k w p l) {i : Nat} (hi : i < l.length) :
    ∃ b off, p = some ⟨b, off, none⟩ ∧ ∀ i, i < l.length → w.cell? ⟨b, off + i, none⟩ = some (.int k (nth l i)) := by
  rcases h with h | h
  · subst h; simp at hi
  · exact h
theorem SL.below {k : IntKind} {w w' : World} {p : Option Addr} {l : List Int} (h : SL k w p l) (hb : Below w.heap.size w w') : SL k w' p l := by
  rcases h with h | ⟨b, off, rfl, hc⟩
  · exact .inl h
  · exact .inr ⟨b, off, rfl, fun i hi => by
      have h1 := hc i hi
      have h2 : b < w.heap.size := World.block_lt_of_cell? w ⟨b, off + i, none⟩ h1
      rw [hb.cell (p := ⟨b, off + i, none⟩) h2]; exact h1⟩
theorem SL.quiet {k : IntKind} {w w' : World} {p : Option Addr} {l : List Int} (h : SL k w p l) (hq : Quiet w w') : SL k w' p l := h.below (hq.below _)
theorem SL.alloc {k : IntKind} {w : World} {p : Option Addr} {l : List Int} (h : SL k w p l) (o : Obj) : SL k (w.alloc o) p l := h.below ((Below.refl _ _).alloc (Nat.le_refl _) o)
theorem SL.row {k : IntKind} {w : World} {g off n : Nat} {l : List Int} {T : TypeId} {fr : Nat × Nat} (hg : w.heap[g]? = some (.cells (ints k l) T fr)) (hn : off + n ≤ l.length) :
    SL k w (some ⟨g, off, none⟩) ((l.drop off).take n) := by
  refine .inr ⟨g, off, rfl, fun i hi => ?_⟩
  have hi' : i < n := by simp at hi; omega
  rw [cell_ints hg (by omega), nth_take hi', nth_drop]
theorem SL.row_all {k : IntKind} {w : World} {g : Nat} {l : List Int} {T : TypeId} {fr : Nat × Nat} (hg : w.heap[g]? = some (.cells (ints k l) T fr)) : SL k w (some ⟨g, 0, none⟩) l :=
  .inr ⟨g, 0, rfl, fun i hi => by rw [Nat.zero_add]; exact cell_ints hg hi⟩
/-- A piece of a slice. -/
theorem SL.sub {k : IntKind} {w : World} {b off : Nat} {l : List Int} (h : SL k w (some ⟨b, off, none⟩) l) (a n : Nat) (hn : a + n ≤ l.length) : SL k w (some ⟨b, off + a, none⟩) ((l.drop a).take n) := by
  by_cases h0 : n = 0
  · subst h0; simp [SL.nil]
  obtain ⟨b', off', e, hc⟩ := h.open (i := a) (by omega)
  cases e
  refine .inr ⟨b, off + a, rfl, fun i hi => ?_⟩
  have hi' : i < n := by simp at hi; omega
  rw [nth_take hi', nth_drop, Nat.add_assoc]
  exact hc (a + i) (by omega)

/-- The slice value v owns the numbers l: a row of the call's own, from block base on. -/
def Own (base : Nat) (w : World) (E : TypeId) (k : IntKind) (v : Value) (l : List Int) : Prop := w.ownsRow base E 1 v l.length (l.map (Value.int k))
theorem Own.form {base : Nat} {w : World} {E : TypeId} {k : IntKind} {v : Value} {l : List Int} (h : Own base w E k v l) : ∃ p cap, v = .slice p l.length cap ∧ SL k w p l ∧ l.length ≤ cap := by
  obtain ⟨h1, h2⟩ := h
  rcases h2 with ⟨rfl, h0⟩ | ⟨g, cap, cur, rfl, hb, hg, hle, hm, hs, ht⟩
  · have : l = [] := List.eq_nil_of_length_eq_zero h0
    subst this; exact ⟨none, 0, rfl, SL.nil .., Nat.le_refl _⟩
  · refine ⟨_, cap, rfl, .inr ⟨g, 0, rfl, fun i hi => ?_⟩, hle⟩
    rw [Nat.zero_add, cell_of_row w g i _ E _ hg]
    have h3 : (cur.toList.take (l.length * 1))[i]? = (l.map (Value.int k))[i]? := by rw [ht]
    rw [List.getElem?_take_of_lt (by omega)] at h3
    rw [nth_lt hi]
    simpa [hi] using h3
theorem Own.below {base : Nat} {w w' : World} {E : TypeId} {k : IntKind} {v : Value} {l : List Int} (h : Own base w E k v l) (hb : Below w.heap.size w w') : Own base w' E k v l := by
  obtain ⟨h1, h2⟩ := h
  refine ⟨h1, h2.imp id ?_⟩
  rintro ⟨g, cap, cur, rfl, hb', hg, r⟩
  exact ⟨g, cap, cur, rfl, hb', (hb.block g (Array.getElem?_eq_some_iff.1 hg).1).trans hg, r⟩
theorem Own.mono {base base' : Nat} {w : World} {E : TypeId} {k : IntKind} {v : Value} {l : List Int} (h : Own base w E k v l) (hb : base' ≤ base) : Own base' w E k v l := by
  obtain ⟨h1, h2⟩ := h
  refine ⟨h1, h2.imp id ?_⟩
  rintro ⟨g, cap, cur, rfl, hb', r⟩
  exact ⟨g, cap, cur, rfl, Nat.le_trans hb hb', r⟩
theorem Own.nil (base : Nat) (w : World) (E : TypeId) (k : IntKind) : Own base w E k (.slice none 0 0) [] := World.ownsRow_nil w base E 1
theorem Own.of_row {base : Nat} {w : World} {E : TypeId} {k : IntKind} {g : Nat} {l : List Int} (hg : w.heap[g]? = some (.cells (ints k l) E (0, 0))) (hb : base ≤ g) (hm : l.length ≤ maxLen) :
    Own base w E k (.slice (some ⟨g, 0, none⟩) l.length l.length) l :=
  ⟨by simp, .inr ⟨g, l.length, ints k l, rfl, hb, hg, Nat.le_refl _, hm, by simp, by simp only [ints]; rw [Nat.mul_one]; exact List.take_of_length_le (by simp)⟩⟩
theorem Own.lt {base : Nat} {w : World} {E : TypeId} {k : IntKind} {v : Value} {l : List Int} (h : Own base w E k v l) : ∀ g, v.ownBlock = some g → base ≤ g ∧ g < w.heap.size := World.ownsRow.lt h

section
variable {P : Program}
theorem made_ints (k : IntKind) (n : Nat) : madeCells #[.int k 0] n = ints k (zerosL n) := by
  apply Array.ext
  · simp [size_madeCells, zerosL_len]
  · intro i h1 h2
    have h3 : i < n := by simpa [size_madeCells] using h1
    rw [getElem_ints]
    simp [madeCells, zerosL, nth, h3, Nat.mod_one]
/-- make([]T, n), T a kind of integer. -/
theorem run_make_ints {T E : TypeId} {k : IntKind} {by' : Nat} (ht : P.underlying T = some (.slice E)) (hi : (P.info? E).map (fun i => (i.zero, i.size, i.bytes)) = some (some (.int k 0), 1, by')) (n : Nat)
    (hn : by' * n ≤ 281474976710656) (h63 : n ≤ 9223372036854775807) (w : World) :
    (Instr.makeSlice T (.int .i64 n) (.int .i64 n)).run P w = .ok (.slice (some ⟨w.heap.size, 0, none⟩) n n) (w.alloc (.cells (ints k (zerosL n)) E)) := by
  cases hq : P.info? E with
  | none => simp [hq] at hi
  | some i =>
    simp [hq] at hi
    obtain ⟨hz, hs, hb⟩ := hi
    have := run_make (P := P) w T E i (.int k 0) ht hq hz .i64 .i64 n n (by omega) (by omega) (by rw [hb]; have : ((by' * n : Nat) : Int) ≤ 281474976710656 := by omega
                                                                                                  rwa [Int.natCast_mul] at this) (by omega)
    simpa [hs, Value.cells, made_ints] using this
end
end Go.Proofs.YtjieiijbgbkikaaDoor
end
section
/- Rows of cells in memory, a part of a row loaded, stored, copied. No program is used here. -/
namespace Go.Proofs.YtjieiijbgbkikaaDoor
open Go Go.RowKit

/-- A row with a part laid over it. -/
def overC (cs : Array Value) (off : Nat) (new : Array Value) : Array Value := (cs.toList.take off ++ new.toList ++ cs.toList.drop (off + new.size)).toArray
def overL (l : List Int) (off : Nat) (new : List Int) : List Int := l.take off ++ new ++ l.drop (off + new.length)
theorem overL_len {l : List Int} {off : Nat} {new : List Int} (h : off + new.length ≤ l.length) : (overL l off new).length = l.length := by simp [overL]; omega
theorem overC_ints (k : IntKind) (l : List Int) (off : Nat) (new : List Int) : overC (ints k l) off (ints k new) = ints k (overL l off new) := by
  simp [overC, ints, overL, List.map_take, List.map_drop]
theorem overL_all {l new : List Int} (h : new.length = l.length) : overL l 0 new = new := by simp [overL, h]
theorem overL_nth_in {l : List Int} {off : Nat} {new : List Int} {i : Nat} (h : off + new.length ≤ l.length) (h0 : off ≤ i) (h1 : i < off + new.length) : nth (overL l off new) i = nth new (i - off) := by
  unfold overL
  have hl : (l.take off).length = off := by simp; omega
  rw [nth_append_lt (by simp; omega), nth_append_ge (by omega), hl]
theorem overL_nth_lo {l : List Int} {off : Nat} {new : List Int} {i : Nat} (h : off + new.length ≤ l.length) (h1 : i < off) : nth (overL l off new) i = nth l i := by
  unfold overL
  rw [nth_append_lt (by simp; omega), nth_append_lt (by simp; omega), nth_take h1]
theorem overL_nth_hi {l : List Int} {off : Nat} {new : List Int} {i : Nat} (h : off + new.length ≤ l.length) (h1 : off + new.length ≤ i) : nth (overL l off new) i = nth l i := by
  unfold overL
  rw [nth_append_ge (by simp; omega), nth_drop]
  congr 1
  simp; omega
theorem Bd.overL {m : Int} (hm : 0 < m) {l : List Int} (hl : Bd m l) (off : Nat) {new : List Int} (hn : Bd m new) : Bd m (overL l off new) :=
  (((hl.take hm off).append hm hn).append hm (hl.drop hm _))

section
variable {P : Program} {ops : Array Oper} {rest : List Oper} {o : Oper} {a : Act} {w : World} {Q : Exit → Act → World → Prop}
theorem run_loadAt_seg {w : World} {g off : Nat} {ty t : TypeId} {cs : Array Value} {fr : Nat × Nat} (hg : w.heap[g]? = some (.cells cs t fr)) {n : Nat} {e : TypeId}
    (hu : P.underlying ty = some (.array n e)) {sz : Nat} (hi : (P.info? ty).map (·.size) = some sz) (hn : off + sz ≤ cs.size) :
    (Instr.loadAt ty (.pointer (some ⟨g, off, none⟩))).run P w = .ok (.agg (cs.extract off (off + sz))) w := by
  have hl : (loadCells ⟨g, off, none⟩ (cs.extract off (off + sz)).toList.length).run P w = .ok (cs.extract off (off + sz)).toList.toArray w :=
    run_loadCells_list (P := P) w ⟨g, off, none⟩ _ (fun j v hv => by
      have hadd : (⟨g, off, none⟩ : Addr).add j = ⟨g, off + j, none⟩ := by unfold Addr.add; split <;> simp_all
      rw [hadd, cell_of_row w g _ cs t fr hg]
      have hv' : (cs.extract off (off + sz))[j]? = some v := by rw [← Array.getElem?_toList]; exact hv
      have hj : j < sz := by have := (Array.getElem?_eq_some_iff.1 hv').1; rw [Array.size_extract] at this; omega
      rw [Array.getElem?_extract_of_lt (by omega)] at hv'
      rw [Array.getElem?_eq_getElem (by omega)]
      exact hv')
  cases hq : P.info? ty with
  | none => simp [hq] at hi
  | some i =>
    have hs : i.size = sz := by simpa [hq] using hi
    have hagg : (isAgg ty).run P w = .ok true w := by
      unfold isAgg
      rw [Sem.run_bind, run_underlying hu w]
      rfl
    have hsz : (cs.extract off (off + sz)).toList.length = sz := by simp; omega
    rw [hsz] at hl
    rw [Array.toArray_toList] at hl
    simp only [Instr.loadAt, Instr.sureAddr, loadVar, Sem.run_bind, Sem.run_pure, hagg, sizeOf, typeInfo, hq, hs, hl, Result.andThen_ok, if_true, program, Sem.run]
/-- An array loaded out of the middle of a row. -/
theorem ld_seg (hgd : o.guard = none) {ty : TypeId} {x : Operand} (ho : o.op = .load ty x) {g off : Nat} (hx : a.eval x = .pointer (some ⟨g, off, none⟩))
    {t : TypeId} {cs : Array Value} {fr : Nat × Nat} (hg : w.heap[g]? = some (.cells cs t fr)) {n : Nat} {e : TypeId}
    (hu : P.underlying ty = some (.array n e)) {sz : Nat} (hi : (P.info? ty).map (·.size) = some sz) (hn : off + sz ≤ cs.size)
    (h : wpList P ops Q rest (a.put o.dst (.agg (cs.extract off (off + sz)))) w) : wpList P ops Q (o :: rest) a w := by
  refine wpList_plain hgd fun K hK => ?_
  unfold Oper.wp execOp
  simp only [ho, hx, Sem.run_bind, run_loadAt_seg hg hu hi hn, Result.andThen_ok]
  exact hK _ _ h
theorem run_storeAt_seg {w : World} {g off : Nat} {ty t : TypeId} {cs new : Array Value} (hg : w.heap[g]? = some (.cells cs t (0, 0))) (hi : (P.info? ty).map (·.size) = some new.size)
    (hn : off + new.size ≤ cs.size) (h1 : new.all (·.oneCell') = true) :
    (Instr.storeAt ty (.pointer (some ⟨g, off, none⟩)) (.agg new)).run P w = .ok () (w.setRow g (overC cs off new)) := by
  have := run_storeCells_at (P := P) g off t new.toList 0 cs w hg (by simpa using hn) (fun v hv => (Array.all_eq_true_iff_forall_mem.1 h1) v (by simpa using hv))
  cases hq : P.info? ty with
  | none => simp [hq] at hi
  | some i =>
    have hs : i.size = new.size := by simpa [hq] using hi
    simp only [Nat.add_zero, Array.length_toList] at this
    simp [Instr.storeAt, Instr.sureAddr, storeVar, sizeOf, typeInfo, hq, hs, Value.cells, this, overC]
/-- An array stored into the middle of a row. -/
theorem st_seg (hgd : o.guard = none) {ty : TypeId} {x y : Operand} (ho : o.op = .store ty x y) {g off : Nat} {new : Array Value} (hx : a.eval x = .pointer (some ⟨g, off, none⟩)) (hy : a.eval y = .agg new)
    {t : TypeId} {cs : Array Value} (hg : w.heap[g]? = some (.cells cs t (0, 0))) (hi : (P.info? ty).map (·.size) = some new.size)
    (hn : off + new.size ≤ cs.size) (h1 : new.all (·.oneCell') = true)
    (h : wpList P ops Q rest (a.put o.dst undef) (w.setRow g (overC cs off new))) : wpList P ops Q (o :: rest) a w := by
  refine wpList_plain hgd fun K hK => ?_
  unfold Oper.wp execOp
  simp only [ho, hx, hy, Sem.run_bind, run_storeAt_seg hg hi hn h1, Result.andThen_ok]
  exact hK _ _ h
theorem SL.vals {k : IntKind} {w : World} {p : Option Addr} {l : List Int} (h : SL k w p l) {n : Nat} (h0 : 0 < n) (hn : n ≤ l.length) :
    ∃ ad, p = some ad ∧ ∀ j v, ((l.take n).map (Value.int k))[j]? = some v → w.cell? (ad.add j) = some v := by
  obtain ⟨b, off, rfl, hc⟩ := h.open (i := 0) (by omega)
  refine ⟨_, rfl, fun j v hv => ?_⟩
  have hadd : (⟨b, off, none⟩ : Addr).add j = ⟨b, off + j, none⟩ := by unfold Addr.add; split <;> simp_all
  have hj : j < n := by have := (List.getElem?_eq_some_iff.1 hv).1; simp at this; omega
  rw [hadd, hc j (by omega)]
  rw [List.getElem?_map, List.getElem?_take_of_lt hj] at hv
  rw [nth_lt (show j < l.length by omega)]
  simpa [show j < l.length by omega] using hv
/-- copy into a row of cells out of a slice of integers. -/
theorem cp_seg (hgd : o.guard = none) {d s : Operand} {dT sT : TypeId} (ho : o.op = .call { callee := .builtin .copy, args := #[d, s], argTypes := #[dT, sT] }) {elem : TypeId} (hu : P.underlying dT = some (.slice elem))
    (hsz : (P.info? elem).map (·.size) = some 1) {g off dLen dCap sLen sCap : Nat} {sp : Option Addr} (hd : a.eval d = .slice (some ⟨g, off, none⟩) dLen dCap) (hs : a.eval s = .slice sp sLen sCap)
    {t : TypeId} {cs : Array Value} (hg : w.heap[g]? = some (.cells cs t (0, 0))) {k : IntKind} {src : List Int} (hsrc : SL k w sp src) (hsl : sLen = src.length) {n : Nat} (hn : n = min sLen dLen) (hfit : off + n ≤ cs.size)
    (h : ∀ w', w'.heap[g]? = some (.cells (overC cs off (ints k (src.take n))) t (0, 0)) → (∀ b, b ≠ g → w'.heap[b]? = w.heap[b]?) → w'.heap.size = w.heap.size → (∀ B w0, Below B w0 w → B ≤ g → Below B w0 w') →
      wpList P ops Q rest (a.put o.dst (.int .i64 n)) w') : wpList P ops Q (o :: rest) a w := by
  have hlen : ((src.take n).map (Value.int k)).length = n := by simp; omega
  by_cases h0 : n = 0
  · have hz := wpList_copy_nothing (P := P) (w := w) (ops := ops) (rest := rest) (o := o) (a := a) (Q := Q) hgd d s dT sT ho elem hu hsz (some ⟨g, off, none⟩) sp dLen dCap sLen sCap hd hs (by show min sLen dLen = 0; omega)
    refine hz ?_
    have := h w (by rw [hg]; subst h0; simp [overC, ints]) (fun _ _ => rfl) rfl (fun _ _ h _ => h)
    subst h0
    exact this
  · obtain ⟨ad, rfl, hv⟩ := hsrc.vals (n := n) (by omega) (by omega)
    refine wpList_copy_own hgd d s dT sT ho elem hu hsz g off dLen dCap ad sLen sCap hd hs cs t hg ((src.take n).map (Value.int k)) (by rw [hlen]; exact hn) hv (by rw [hlen]; exact hfit) (by
      intro v hv'; obtain ⟨x, _, rfl⟩ := List.mem_map.1 hv'; rfl) ?_
    rw [hlen]
    have he : (cs.toList.take off ++ ((src.take n).map (Value.int k) ++ cs.toList.drop (off + n))).toArray = overC cs off (ints k (src.take n)) := by
      have h2 : (ints k (src.take n)).size = n := by rw [size_ints]; simpa using hlen
      have h3 : (ints k (src.take n)).toList = (src.take n).map (Value.int k) := by simp [ints]
      unfold overC
      rw [h2, h3, List.append_assoc]
    rw [he]
    exact h _ (setRow_heap w g _ _ t _ hg) (fun b hb => setRow_other w g b _ hb) (size_setRow ..) (fun B w0 hB hBg => belowRow hB hBg _)
end
end Go.Proofs.YtjieiijbgbkikaaDoor
end
section
/- Memory besides: a part of memory kept, slices of integers appended to. No program is used here. -/
namespace Go.Proofs.YtjieiijbgbkikaaDoor
open Go Go.RowKit

/-- Blocks that do not lie in S are kept. -/
structure Kep (S : Nat → Prop) (w w' : World) : Prop where
  os : w'.os = w.os
  tape : w'.tape = w.tape
  output : w'.output = w.output
  size : w.heap.size ≤ w'.heap.size
  block : ∀ k, k < w.heap.size → ¬ S k → w'.heap[k]? = w.heap[k]?
theorem Kep.refl (S : Nat → Prop) (w : World) : Kep S w w := ⟨rfl, rfl, rfl, Nat.le_refl _, fun _ _ _ => rfl⟩
theorem Kep.trans {S : Nat → Prop} {a b c : World} (h : Kep S a b) (k : Kep S b c) : Kep S a c :=
  ⟨k.os.trans h.os, k.tape.trans h.tape, k.output.trans h.output, Nat.le_trans h.size k.size, fun i hi hs => (k.block i (Nat.lt_of_lt_of_le hi h.size) hs).trans (h.block i hi hs)⟩
/-- Kept up to B: what lies at B or beyond may turn in the second step. -/
theorem Kep.then {S S' : Nat → Prop} {a b c : World} (h : Kep S a b) (k : Kep S' b c) (hs : ∀ i, i < a.heap.size → S' i → S i) : Kep S a c :=
  ⟨k.os.trans h.os, k.tape.trans h.tape, k.output.trans h.output, Nat.le_trans h.size k.size, fun i hi hn => (k.block i (Nat.lt_of_lt_of_le hi h.size) (fun e => hn (hs i hi e))).trans (h.block i hi hn)⟩
theorem Kep.below {S : Nat → Prop} {B : Nat} {w0 w w' : World} (h : Kep S w w') (hb : Below B w0 w) (hB : B ≤ w.heap.size) (hs : ∀ k, S k → B ≤ k) : Below B w0 w' :=
  hb.trans ⟨h.os, h.tape, h.output, h.size, fun k hk => h.block k (Nat.lt_of_lt_of_le hk hB) (fun e => by have := hs k e; omega)⟩
theorem Kep.of_below {S : Nat → Prop} {B : Nat} {w w' : World} (hb : Below B w w') (hs : ∀ k, k < w.heap.size → ¬ S k → k < B) : Kep S w w' :=
  ⟨hb.os, hb.tape, hb.output, hb.size, fun k hk hn => hb.block k (hs k hk hn)⟩
theorem Kep.alloc {S : Nat → Prop} {w w' : World} (h : Kep S w w') (o : Obj) : Kep S w (w'.alloc o) :=
  h.trans ⟨rfl, rfl, rfl, by simp, fun k hk _ => heap_alloc_past w' o k hk⟩
theorem Kep.drew {S : Nat → Prop} {w w' : World} (h : Kep S w w') : Kep S w w'.drew := h.trans ⟨rfl, rfl, rfl, Nat.le_refl _, fun _ _ _ => rfl⟩
theorem Kep.drewN {S : Nat → Prop} {w w' : World} (h : Kep S w w') (n : Nat) : Kep S w (w'.drewN n) := h.trans ⟨rfl, rfl, rfl, Nat.le_refl _, fun _ _ _ => rfl⟩
theorem Kep.setCell {S : Nat → Prop} {w w' : World} (h : Kep S w w') {g o : Nat} (hg : S g ∨ w.heap.size ≤ g) (v : Value) : Kep S w (w'.setCell ⟨g, o, none⟩ v) :=
  ⟨h.os, h.tape, h.output, by simpa using h.size, fun k hk hn => (heap_setCell_ne' w' g o k v (by rintro rfl; rcases hg with hg | hg
                                                                                                  · exact hn hg
                                                                                                  · omega)).trans (h.block k hk hn)⟩
theorem Kep.setRow {S : Nat → Prop} {w w' : World} (h : Kep S w w') {g : Nat} (hg : S g ∨ w.heap.size ≤ g) (c : Array Value) : Kep S w (w'.setRow g c) :=
  ⟨h.os, h.tape, h.output, by simpa using h.size, fun k hk hn => (heap_setRow_ne w' g k c (by rintro rfl; rcases hg with hg | hg
                                                                                              · exact hn hg
                                                                                              · omega)).trans (h.block k hk hn)⟩
theorem Kep.heap {S : Nat → Prop} {w w' : World} (h : Kep S w w') {b : Nat} {x : Obj} (hb : w.heap[b]? = some x) (hn : ¬ S b) : w'.heap[b]? = some x :=
  (h.block b (Array.getElem?_eq_some_iff.1 hb).1 hn).trans hb
theorem Kep.of_grown {S : Nat → Prop} {w w' : World} {r : Option Nat} (h : w.grownBy w' r) (hr : ∀ g, r = some g → S g) : Kep S w w' :=
  ⟨h.os, h.tape, h.output, h.size, fun k hk hn => h.block k hk (fun e => hn (hr k e.symm))⟩
/-- A slice read from blocks that are kept. -/
theorem SL.kep {S : Nat → Prop} {k : IntKind} {w w' : World} {p : Option Addr} {l : List Int} (h : SL k w p l) (hk : Kep S w w') (hs : ∀ a, p = some a → l ≠ [] → ¬ S a.block) : SL k w' p l := by
  by_cases hl : l = []
  · exact .inl hl
  rcases h with h | ⟨b, off, rfl, hc⟩
  · exact .inl h
  · exact .inr ⟨b, off, rfl, fun i hi => by
      have h1 := hc i hi
      have h2 : b < w.heap.size := World.block_lt_of_cell? w ⟨b, off + i, none⟩ h1
      have h3 := hk.block b h2 (hs _ rfl hl)
      rw [World.cell?_of_block (a := ⟨b, off + i, none⟩) h3]; exact h1⟩
theorem SL.lt {k : IntKind} {w : World} {p : Option Addr} {l : List Int} (h : SL k w p l) (hl : l ≠ []) : ∀ a, p = some a → a.block < w.heap.size := by
  rintro a rfl
  rcases h with h | ⟨b, off, e, hc⟩
  · exact absurd h hl
  · cases e
    exact World.block_lt_of_cell? w ⟨b, off + 0, none⟩ (hc 0 (List.length_pos_iff.2 hl))
theorem Own.kep {S : Nat → Prop} {base : Nat} {w w' : World} {E : TypeId} {k : IntKind} {v : Value} {l : List Int} (h : Own base w E k v l) (hk : Kep S w w') (hs : ∀ g, v.ownBlock = some g → ¬ S g) : Own base w' E k v l := by
  obtain ⟨h1, h2⟩ := h
  refine ⟨h1, h2.imp id ?_⟩
  rintro ⟨g, cap, cur, rfl, hb', hg, r⟩
  exact ⟨g, cap, cur, rfl, hb', hk.heap hg (hs g rfl), r⟩
/-- A block of another type is none that is owned. -/
theorem Own.ne {base : Nat} {w : World} {E T : TypeId} {k : IntKind} {v : Value} {l : List Int} (h : Own base w E k v l) {b : Nat} {cs : Array Value} {fr : Nat × Nat} (hb : w.heap[b]? = some (.cells cs T fr)) (hT : T ≠ E) : v.ownBlock ≠ some b := by
  rintro e
  rcases h.2 with ⟨rfl, _⟩ | ⟨g, cap, cur, rfl, _, hg, _⟩
  · simp [Value.ownBlock] at e
  · simp only [Value.ownBlock, Option.some.injEq] at e
    subst e
    rw [hb] at hg
    simp only [Option.some.injEq, Obj.cells.injEq] at hg
    exact hT hg.2.1
theorem Own.rebase {base base' : Nat} {w : World} {E : TypeId} {k : IntKind} {v : Value} {l : List Int} (h : Own base w E k v l) (hb : ∀ g, v.ownBlock = some g → base' ≤ g) : Own base' w E k v l := by
  obtain ⟨h1, h2⟩ := h
  refine ⟨h1, h2.imp id ?_⟩
  rintro ⟨g, cap, cur, rfl, hb', r⟩
  exact ⟨g, cap, cur, rfl, hb g rfl, r⟩

theorem below_blk {w w' : World} {b : Nat} {x : Obj} (hb : Below w.heap.size w w') (h : w.heap[b]? = some x) : w'.heap[b]? = some x := (hb.block b (Array.getElem?_eq_some_iff.1 h).1).trans h
theorem take_snoc_nth' {l : List Int} {k : Nat} (h : k < l.length) : l.take (k + 1) = l.take k ++ [nth l k] := by
  rw [List.take_succ_eq_append_getElem h, nth_lt h]
theorem wrap_u8_bd (x : Int) : 0 ≤ IntKind.u8.wrap x ∧ IntKind.u8.wrap x < 256 := by
  simp [IntKind.wrap, IntKind.signed, IntKind.bits]
  omega
theorem bits_u8_bd (op : BinOp) (a b : Int) : 0 ≤ bits op .u8 a b ∧ bits op .u8 a b < 256 := by
  unfold bits
  exact wrap_u8_bd _

theorem Own.cases {base : Nat} {w : World} {E : TypeId} {k : IntKind} {v : Value} {l : List Int} (h : Own base w E k v l) : (v = .slice none 0 0 ∧ l = []) ∨ ∃ g cap, v = .slice (some ⟨g, 0, none⟩) l.length cap ∧ SL k w (some ⟨g, 0, none⟩) l ∧ l.length ≤ cap ∧ base ≤ g := by
  rcases h.2 with ⟨rfl, h0⟩ | ⟨g, cap, cur, rfl, hb, hg, hle, _⟩
  · exact .inl ⟨rfl, List.eq_nil_of_length_eq_zero h0⟩
  · obtain ⟨p, c, e, hs, hc⟩ := h.form
    cases e
    exact .inr ⟨g, cap, rfl, hs, hle, hb⟩
theorem Own.fresh {base : Nat} (w : World) (E : TypeId) (k : IntKind) (hb : base ≤ w.heap.size) : Own base (w.alloc (.cells #[] E)) E k (.slice (some ⟨w.heap.size, 0, none⟩) 0 0) [] :=
  World.ownsRow_lit w #[] 0 hb (by decide) rfl

theorem Own.grown {base : Nat} {w0 w w' : World} {E : TypeId} {k : IntKind} {v : Value} {l : List Int} (h : Own base w E k v l) (hb : Below base w0 w) (hB : base ≤ w.heap.size) (hg : w.grownBy w' v.ownBlock) : Below base w0 w' :=
  (Kep.of_grown (S := fun g => v.ownBlock = some g) hg (fun _ e => e)).below hb hB (fun g e => (h.lt g e).1)

section
variable {P : Program} {ops : Array Oper} {rest : List Oper} {o : Oper} {a : Act} {w : World} {Q : Exit → Act → World → Prop}
theorem wp_st_seg {K : Act → World → Prop} {ty : TypeId} {x y : Operand} (ho : o.op = .store ty x y) {g off : Nat} {new : Array Value} (hx : a.eval x = .pointer (some ⟨g, off, none⟩)) (hy : a.eval y = .agg new)
    {t : TypeId} {cs : Array Value} (hg : w.heap[g]? = some (.cells cs t (0, 0))) (hi : (P.info? ty).map (·.size) = some new.size)
    (hn : off + new.size ≤ cs.size) (h1 : new.all (·.oneCell') = true)
    (h : K (a.put o.dst undef) (w.setRow g (overC cs off new))) : o.wp P a w K Q := by
  unfold Oper.wp execOp
  simp only [ho, hx, hy, Sem.run_bind, run_storeAt_seg hg hi hn h1, Result.andThen_ok]
  exact h
theorem run_append_none {w : World} {base : Nat} {t ty e : TypeId} {i : TypeInfo} {size : Nat} (ht : P.underlying t = some (.slice e)) (hi : P.info? e = some i)
    {v : Value} {n : Nat} {xs : List Value} (hown : w.ownsRow base e size v n xs) (p : Option Addr) (c : Nat) :
    (Builtin.append_ #[t, t] ty #[v, .slice p 0 c]).run P w = .ok v w := by
  rcases hown.2 with ⟨rfl, rfl⟩ | ⟨g, cap, cur, rfl, _, _, hnc, _⟩
  · cases p <;> simp [Builtin.append_, run_underlying ht, sizeOf, typeInfo, hi, Builtin.lenOf, Builtin.firstCells, loadCells, loadCellsFrom]
  · cases p <;> simp [Builtin.append_, run_underlying ht, sizeOf, typeInfo, hi, Builtin.lenOf, Builtin.firstCells, loadCells, loadCellsFrom, hnc, storeCells]
/-- append(s, x...): slices of integers, s the call's own. -/
theorem ap_ints (hgd : o.guard = none) {s x : Operand} {t : TypeId} (ho : o.op = .call { callee := .builtin .append, args := #[s, x], argTypes := #[t, t] })
    {E : TypeId} {k : IntKind} {by' : Nat} (ht : P.underlying t = some (.slice E)) (hi : (P.info? E).map (fun i => (i.zero, i.size, i.bytes)) = some (some (.int k 0), 1, by')) (hby : by' ≤ 8)
    {base : Nat} {v : Value} {l : List Int} (hs : a.eval s = v) (hown : Own base w E k v l) {p : Option Addr} {sLen sCap : Nat} {m : List Int} (hx : a.eval x = .slice p sLen sCap) (hsl : sLen = m.length) (hsrc : SL k w p m)
    (hlen : l.length + m.length ≤ 1099511627776) (hbase : base ≤ w.heap.size)
    (h : ∀ v' w', Own base w' E k v' (l ++ m) → w.grownBy w' v.ownBlock → (v' = v ∨ 0 < m.length) → wpList P ops Q rest (a.put o.dst v') w') : wpList P ops Q (o :: rest) a w := by
  cases hq : P.info? E with
  | none => simp [hq] at hi
  | some i =>
    simp [hq] at hi
    obtain ⟨hz, hs1, hb⟩ := hi
    by_cases hm : m = []
    · subst hm
      simp only [List.length_nil] at hsl
      subst hsl
      refine wpList_plain hgd fun K hK => ?_
      have hrun := run_append_none (P := P) (w := w) (ty := o.type) ht hq hown p sCap
      unfold Oper.wp
      simp [execOp, ho, resolve, invoke, builtin, hs, hx, hrun, Result.andThen]
      exact hK _ _ (h v w (by simpa using hown) ⟨rfl, rfl, rfl, Nat.le_refl _, fun _ _ _ => rfl⟩ (.inl rfl))
    · have hm0 : 0 < m.length := List.length_pos_iff.2 hm
      obtain ⟨ad, rfl, hv⟩ := hsrc.vals (n := m.length) hm0 (Nat.le_refl _)
      rw [List.take_of_length_le (Nat.le_refl _)] at hv
      refine wpList_append_own w hgd s x t ho base E i (.int k 0) 1 by' ht hq hz hs1 hb (by rfl) (by decide) v l.length (l.map (Value.int k)) hs hown ad m.length sCap (m.map (Value.int k)) (by rw [hx, hsl]) (by simp) hv (by
        intro u hu; obtain ⟨y, _, rfl⟩ := List.mem_map.1 hu; rfl) (by simp only [maxLen]; omega) (by
        have h1 : (l.length + m.length) * by' ≤ 1099511627776 * 8 := Nat.mul_le_mul hlen hby
        omega) hbase ?_
      intro v' w' h2 h3 _
      refine h v' w' ?_ h3 (.inr hm0)
      unfold Own
      rw [List.length_append, List.map_append]
      exact h2
end
end Go.Proofs.YtjieiijbgbkikaaDoor
end
section
/- Strings of bytes: no program is used here. -/
namespace Go.Proofs.YtjieiijbgbkikaaDoor
open Go Go.RowKit
theorem run_str {P : Program} {src e dst : TypeId} (hs : P.underlying src = some (.slice e)) (he : P.underlying e = some (.int .u8)) (hd : P.underlying dst = some .string) {w : World} {p : Option Addr} {l : List Int} (hS : SL .u8 w p l) (n c : Nat) (hn : n = l.length) :
    (convert src dst (.slice p n c)).run P w = .ok (.string (strOfNums l)) w := by
  subst hn
  cases p with
  | none =>
    have e0 : l = [] := by
      rcases hS with h | ⟨b, off, h, _⟩
      · exact h
      · cases h
    subst e0
    exact run_convert_bytes_nil w src e hs he _ _ dst hd
  | some a =>
    by_cases h0 : 0 < l.length
    · obtain ⟨b, off, e1, hc⟩ := hS.open (i := 0) h0
      cases e1
      exact run_convert_bytes_arg w src e hs he b off l.length c l rfl (fun i hi => by rw [hc i hi]; rfl) dst hd
    · have e0 : l = [] := List.length_eq_zero_iff.1 (by omega)
      subst e0
      have hl : (loadCells a 0).run P w = .ok (([] : List Int).map (Value.int .u8)).toArray w := by
        have := run_loadCells_list (P := P) w a [] (fun j v hj => by simp at hj)
        simpa using this
      rw [run_convert_bytes_string w src dst e _ _ c hs he hd]
      have := run_bytesToString w a 0 c [] hl
      exact this.trans (by rfl)
theorem strOfNums_inj {a b : List Int} (ha : Bd 256 a) (hb : Bd 256 b) (h : strOfNums a = strOfNums b) : a = b := by
  have h1 := congrArg (fun s : ByteArray => s.data.toList) h
  simp only [strOfNums_data] at h1
  have hl : a.length = b.length := by have := congrArg List.length h1; simpa using this
  refine ext_nth hl fun i hi => ?_
  have h2 := congrArg (fun l : List UInt8 => l[i]?) h1
  simp only [List.getElem?_map] at h2
  rw [List.getElem?_eq_getElem hi, List.getElem?_eq_getElem (by omega)] at h2
  simp only [Option.map_some, Option.some.injEq] at h2
  rw [nth_lt hi, nth_lt (show i < b.length by omega)]
  have a1 := ha i
  have b1 := hb i
  rw [nth_lt hi] at a1
  rw [nth_lt (show i < b.length by omega)] at b1
  have h3 := congrArg UInt8.toNat h2
  simp only [UInt8.toNat_ofNat'] at h3
  omega
theorem str_beq {a b : List Int} (ha : Bd 256 a) (hb : Bd 256 b) : (strOfNums a == strOfNums b) = decide (a = b) := by
  show ((strOfNums a).data == (strOfNums b).data) = _
  by_cases h : a = b
  · subst h; simp
  · have : ¬ (strOfNums a).data = (strOfNums b).data := fun e => h (strOfNums_inj ha hb (by cases ha2 : strOfNums a; cases hb2 : strOfNums b; simp_all))
    simp [h, this]
end Go.Proofs.YtjieiijbgbkikaaDoor
end
