/- Lemmas of a proof over the given program, joined by wip/join.py: KAllocs KLawF. -/
import Derived.Test.YtjieiijbgbkikaaDoorJ01
import Derived.Test.YtjieiijbgbkikaaDoorJ02
import Derived.Test.YtjieiijbgbkikaaDoorJ12
import Derived.Test.YtjieiijbgbkikaaDoorJ14
set_option linter.unusedSimpArgs false
set_option linter.unusedVariables false
section
/- Several new variables of one type in a region of open order: whatever the order, the addresses by name. No program is used here. -/
namespace Go.Proofs.YtjieiijbgbkikaaDoor
open Go Go.RowKit
def setAll (listed : Array Bool) (R : List Nat) : Array Bool := R.foldl (fun l i => l.setIfInBounds i true) listed
def putAll (d : Nat → Tmp) (f : Nat → Nat) (a : Act) (R : List Nat) : Act := R.foldl (fun a i => a.put (some (d i)) (.pointer (some ⟨f i, 0, none⟩))) a
theorem setAll_erase {i : Nat} : ∀ {R : List Nat} {listed : Array Bool}, i ∈ R → setAll (listed.setIfInBounds i true) (R.erase i) = setAll listed R
  | [], _, h => by cases h
  | j :: R, listed, h => by
    by_cases e : j = i
    · subst e; simp [setAll]
    · have h' : i ∈ R := by
        rcases List.mem_cons.1 h with h | h
        · exact absurd h.symm e
        · exact h
      rw [List.erase_cons_tail (by simpa using e)]
      show setAll ((listed.setIfInBounds i true).setIfInBounds j true) (R.erase i) = setAll (listed.setIfInBounds j true) R
      rw [set_comm', setAll_erase h']
theorem putAll_erase {d : Nat → Tmp} {f : Nat → Nat} {i : Nat} : ∀ {R : List Nat} {a : Act}, i ∈ R → (∀ j ∈ R, j ≠ i → d j ≠ d i) → putAll d f (a.put (some (d i)) (.pointer (some ⟨f i, 0, none⟩))) (R.erase i) = putAll d f a R
  | [], _, h, _ => by cases h
  | j :: R, a, h, hd => by
    by_cases e : j = i
    · subst e; simp [putAll]
    · have h' : i ∈ R := by
        rcases List.mem_cons.1 h with h | h
        · exact absurd h.symm e
        · exact h
      rw [List.erase_cons_tail (by simpa using e)]
      show putAll d f ((a.put (some (d i)) _).put (some (d j)) _) (R.erase i) = putAll d f (a.put (some (d j)) _) R
      rw [Act.put_comm _ _ _ (fun t ht => by
        have h1 : d i = t := Option.some.inj ht
        intro h2
        have h3 : d j = t := Option.some.inj h2
        exact hd j (by simp) e (h3.trans h1.symm)), putAll_erase h' (fun k hk hki => hd k (by simp [hk]) hki)]
theorem putAll_congr {d : Nat → Tmp} {f g : Nat → Nat} : ∀ {R : List Nat} {a : Act}, (∀ j ∈ R, f j = g j) → putAll d f a R = putAll d g a R
  | [], _, _ => rfl
  | j :: R, a, h => by
    show putAll d f (a.put (some (d j)) (.pointer (some ⟨f j, 0, none⟩))) R = putAll d g (a.put (some (d j)) (.pointer (some ⟨g j, 0, none⟩))) R
    rw [h j (by simp)]
    exact putAll_congr fun k hk => h k (by simp [hk])
def readyAll (md : Region.Mode) (ops : Array Oper) : Nat → List Nat → Array Bool → Bool
  | 0, R, _ => R.isEmpty
  | n + 1, R, listed => decide (R.length = n + 1) && decide (Region.ready md ops listed = R) && R.all fun i => readyAll md ops n (R.erase i) (listed.setIfInBounds i true)
section
variable {P : Program} {md : Region.Mode} {ops : Array Oper} {Q : Exit → Act → World → Prop} {A B : World → Prop} {e : Nat}
theorem wpOp_alloc {K : Act → World → Prop} {i : Nat} {o : Oper} {a : Act} {w : World} {T : TypeId} {cs : Array Value} (hz : (P.info? T).map (·.zero) = some (some (.agg cs))) (ho : ops[i]? = some o) (hg : o.guard = none) (hop : o.op = .alloc T)
    (h : K (a.put o.dst (.pointer (some ⟨w.heap.size, 0, none⟩))) (w.alloc (.cells cs T))) : wpOp P ops Q i K a w := by
  unfold wpOp
  simp only [ho]
  rw [if_pos (by simp [Region.wanted, hg])]
  refine .inl ?_
  cases hq : P.info? T with
  | none => simp [hq] at hz
  | some q =>
    have hz' : q.zero = some (.agg cs) := by simpa [hq] using hz
    unfold Oper.wp execOp
    simp only [hop]
    simp [Instr.alloc, zeroValue, typeInfo, hq, hz', newVar, newRow, newObj, Sem.run, Value.cells]
    exact h
theorem wp_al {K : Act → World → Prop} {o : Oper} {a : Act} {w : World} {T : TypeId} {cs : Array Value} (hop : o.op = .alloc T) (hz : (P.info? T).map (·.zero) = some (some (.agg cs)))
    (h : ∀ (W : World) (g : Nat), W.heap[g]? = some (.cells cs T (0, 0)) → Below w.heap.size w W → w.heap.size ≤ g → RowKit.Hid (g < W.heap.size) → K (a.put o.dst (.pointer (some ⟨g, 0, none⟩))) W) : o.wp P a w K Q := by
  have h' := h (w.alloc (.cells cs T)) w.heap.size (heap_alloc_new w _) ((Below.refl _ _).alloc (Nat.le_refl _) _) (Nat.le_refl _) (by show _ < _; simp)
  cases hq : P.info? T with
  | none => simp [hq] at hz
  | some q =>
    have hz' : q.zero = some (.agg cs) := by simpa [hq] using hz
    unfold Oper.wp execOp
    simp only [hop]
    simp [Instr.alloc, zeroValue, typeInfo, hq, hz', newVar, newRow, newObj, Sem.run, Value.cells]
    exact h'
theorem allocs_any {T : TypeId} {cs : Array Value} (hz : (P.info? T).map (·.zero) = some (some (.agg cs))) (d : Nat → Tmp) (hA : ∀ w o, A w → A (w.alloc o)) (hB : ∀ w o, B w → B (w.alloc o)) (fuel : Nat) :
    ∀ (n : Nat) (R : List Nat) (listed : Array Bool) (a : Act) (w : World), readyAll md ops n R listed = true → R.Nodup → e ∉ R →
      (∀ i ∈ R, ∃ o, ops[i]? = some o ∧ o.guard = none ∧ o.op = .alloc T ∧ o.dst = some (d i)) → (∀ i ∈ R, ∀ j ∈ R, j ≠ i → d j ≠ d i) → S1 A B (flags [e] listed) w →
      (∀ (f : Nat → Nat) (w' : World), (∀ i ∈ R, w.heap.size ≤ f i ∧ w'.heap[f i]? = some (.cells cs T (0, 0))) → (∀ i ∈ R, ∀ j ∈ R, j ≠ i → f j ≠ f i) → Below w.heap.size w w' → S1 A B (flags [e] listed) w' →
        wpAnyE P md ops Q [e] (S1 A B) fuel (setAll listed R) (putAll d f a R) w') →
      wpAnyE P md ops Q [e] (S1 A B) (fuel + n) listed a w := by
  intro n
  induction n with
  | zero =>
    intro R listed a w hr _ _ _ _ hS H
    have : R = [] := by simpa [readyAll] using hr
    subst this
    exact H (fun _ => 0) w (fun i hi => by cases hi) (fun i hi => by cases hi) (Below.refl _ _) hS
  | succ n ih =>
    intro R listed a w hr hnd he ho hd hS H
    simp only [readyAll, Bool.and_eq_true, decide_eq_true_eq, List.all_eq_true] at hr
    obtain ⟨⟨hlen, hready⟩, hall⟩ := hr
    rw [show fuel + (n + 1) = (fuel + n) + 1 by omega]
    refine wpAnyE_all hready (by intro h; rw [h] at hlen; simp at hlen) fun i hi => ?_
    obtain ⟨o, ho1, hg, hop, hdst⟩ := ho i hi
    refine wpOp_alloc hz ho1 hg hop ?_
    have hei : i ∉ [e] := by simp only [List.mem_singleton]; rintro rfl; exact he hi
    have hS1 : S1 A B (flags [e] (listed.setIfInBounds i true)) (w.alloc (.cells cs T)) := by
      rw [flags_set hei]
      match hf : flags [e] listed, hS with
      | [c], hS => exact ⟨hA _ _ hS.1, fun hc => hB _ _ (hS.2 hc)⟩
    refine ⟨hS1, ?_⟩
    rw [hdst]
    refine ih (R.erase i) _ _ _ (hall i hi) (hnd.erase i) (fun h => he (List.mem_of_mem_erase h)) (fun j hj => ho j (List.mem_of_mem_erase hj)) (fun j hj k hk => hd j (List.mem_of_mem_erase hj) k (List.mem_of_mem_erase hk)) hS1 ?_
    intro f w' hf hdis hB' hS'
    have hni : ∀ j ∈ R.erase i, j ≠ i := fun j hj e => by subst e; exact hnd.not_mem_erase hj
    have hsz : (w.alloc (.cells cs T)).heap.size = w.heap.size + 1 := by simp
    have hBw : Below w.heap.size w w' := ((Below.refl _ _).alloc (Nat.le_refl _) _).trans (hB'.mono (by omega))
    have hnew : w'.heap[w.heap.size]? = some (.cells cs T (0, 0)) := (hB'.block _ (by omega)).trans (heap_alloc_new w _)
    have key := H (fun j => if j = i then w.heap.size else f j) w' (fun j hj => by
      by_cases e : j = i
      · subst e; simp only [if_true]; exact ⟨Nat.le_refl _, hnew⟩
      · simp only [e, if_false]
        have := hf j ((List.mem_erase_of_ne e).2 hj)
        exact ⟨by omega, this.2⟩) (fun j hj k hk hkj => by
      by_cases e1 : k = i
      · subst e1
        have := hf j ((List.mem_erase_of_ne (fun h => hkj h.symm)).2 hj)
        simp only [if_true]
        rw [if_neg (fun h => hkj h.symm)]
        omega
      · by_cases e2 : j = i
        · subst e2
          have := hf k ((List.mem_erase_of_ne e1).2 hk)
          simp only [if_true, if_neg e1]
          omega
        · simp only [if_neg e1, if_neg e2]
          exact hdis j ((List.mem_erase_of_ne e2).2 hj) k ((List.mem_erase_of_ne e1).2 hk) hkj) hBw (by rw [flags_set hei] at hS'; exact hS')
    rw [← setAll_erase hi, ← putAll_erase hi (fun j hj hji => hd i hi j hj hji)] at key
    simp only [if_true] at key
    rwa [putAll_congr (f := fun j => if j = i then w.heap.size else f j) (g := f) (fun j hj => by simp [hni j hj])] at key
theorem wp_st_row {o : Oper} {a : Act} {w : World} {K : Act → World → Prop} {ty : TypeId} {x y : Operand} (ho : o.op = .store ty x y) {g : Nat} {new : Array Value} (hx : a.eval x = .pointer (some ⟨g, 0, none⟩)) (hy : a.eval y = .agg new)
    {t : TypeId} {cs : Array Value} (hg : w.heap[g]? = some (.cells cs t (0, 0))) {n : Nat} (hi : (P.info? ty).map (·.size) = some n) (h1 : new.size = n) (h2 : cs.size = n) (h3 : new.all (·.oneCell') = true)
    (h : ∀ w', w'.heap[g]? = some (.cells new t (0, 0)) → Kep (fun b => b = g) w w' → K (a.put o.dst undef) w') : o.wp P a w K Q := by
  refine wp_st_seg ho hx hy hg (by rw [hi, h1]) (by omega) h3 ?_
  have : overC cs 0 new = new := by
    apply Array.ext'
    simp [overC, h1, h2]
  rw [this]
  exact h _ (setRow_heap w g _ _ t _ hg) ((Kep.refl (fun b => b = g) w).setRow (g := g) (.inl rfl) _)
theorem run_storeAt_cell {ty : TypeId} (hs : (P.info? ty).map (·.size) = some 1) {w : World} {g i : Nat} {t : TypeId} {cs : Array Value} (hg : w.heap[g]? = some (.cells cs t (0, 0)))
    (hi : i < cs.size) {v : Value} (hv : v.oneCell' = true) : (Instr.storeAt ty (.pointer (some ⟨g, i, none⟩)) v).run P w = .ok () (w.setRow g (cs.setIfInBounds i v)) := by
  cases hq : P.info? ty with
  | none => simp [hq] at hs
  | some q =>
    have hs' : q.size = 1 := by simpa [hq] using hs
    have hc : w.cell? ⟨g, i, none⟩ = some cs[i] := by rw [cell_of_row w g i _ t _ hg, Array.getElem?_eq_getElem hi]
    have hf : w.frozen? ⟨g, i, none⟩ = false := frozen_of_row w g i _ t hg
    have he := setCell_eq_setRow w g i cs t (0, 0) v hg
    generalize cs[i] = u at hc
    cases v <;> first | (simp [Value.oneCell'] at hv; done) | simp [Instr.storeAt, Instr.sureAddr, storeVar, sizeOf, typeInfo, hq, hs', Value.cells, storeCells, Addr.add, store, Sem.run, hc, hf, he]
theorem wp_st_cell {o : Oper} {a : Act} {w : World} {K : Act → World → Prop} {ty : TypeId} {x y : Operand} (ho : o.op = .store ty x y) {g i : Nat} {v : Value} (hx : a.eval x = .pointer (some ⟨g, i, none⟩)) (hy : a.eval y = v) (hv : v.oneCell' = true) (hs : (P.info? ty).map (·.size) = some 1)
    {t : TypeId} {cs : Array Value} (hg : w.heap[g]? = some (.cells cs t (0, 0))) (hi : i < cs.size)
    (h : ∀ w', w'.heap[g]? = some (.cells (cs.setIfInBounds i v) t (0, 0)) → Kep (fun b => b = g) w w' → K (a.put o.dst undef) w') : o.wp P a w K Q := by
  unfold Oper.wp execOp
  simp only [ho, hx, hy, Sem.run_bind, run_storeAt_cell hs hg hi hv, Result.andThen_ok]
  exact h _ (setRow_heap w g _ _ t _ hg) ((Kep.refl (fun b => b = g) w).setRow (g := g) (.inl rfl) _)
/-- One cell of a block stored. -/
theorem st_cell {rest : List Oper} {o : Oper} {a : Act} {w : World} (hgd : o.guard = none) {ty : TypeId} {x y : Operand} (ho : o.op = .store ty x y) {g i : Nat} {v : Value} (hx : a.eval x = .pointer (some ⟨g, i, none⟩)) (hy : a.eval y = v) (hv : v.oneCell' = true) (hs : (P.info? ty).map (·.size) = some 1)
    {t : TypeId} {cs : Array Value} (hg : w.heap[g]? = some (.cells cs t (0, 0))) (hi : i < cs.size)
    (h : ∀ w', w'.heap[g]? = some (.cells (cs.setIfInBounds i v) t (0, 0)) → Kep (fun b => b = g) w w' → wpList P ops Q rest (a.put o.dst undef) w') : wpList P ops Q (o :: rest) a w :=
  wpList_plain hgd fun K hK => wp_st_cell ho hx hy hv hs hg hi (fun w' h1 h2 => hK _ _ (h w' h1 h2))
theorem wp_st_part {o : Oper} {a : Act} {w : World} {K : Act → World → Prop} {ty : TypeId} {x y : Operand} (ho : o.op = .store ty x y) {g off : Nat} {new : Array Value} (hx : a.eval x = .pointer (some ⟨g, off, none⟩)) (hy : a.eval y = .agg new)
    {t : TypeId} {cs : Array Value} (hg : w.heap[g]? = some (.cells cs t (0, 0))) (hi : (P.info? ty).map (·.size) = some new.size) (hn : off + new.size ≤ cs.size) (h1 : new.all (·.oneCell') = true)
    (h : ∀ w', w'.heap[g]? = some (.cells (overC cs off new) t (0, 0)) → Kep (fun b => b = g) w w' → K (a.put o.dst undef) w') : o.wp P a w K Q :=
  wp_st_seg ho hx hy hg hi hn h1 (h _ (setRow_heap w g _ _ t _ hg) ((Kep.refl (fun b => b = g) w).setRow (g := g) (.inl rfl) _))
/-- A part of a block stored: an array. -/
theorem st_part {rest : List Oper} {o : Oper} {a : Act} {w : World} (hgd : o.guard = none) {ty : TypeId} {x y : Operand} (ho : o.op = .store ty x y) {g off : Nat} {new : Array Value} (hx : a.eval x = .pointer (some ⟨g, off, none⟩)) (hy : a.eval y = .agg new)
    {t : TypeId} {cs : Array Value} (hg : w.heap[g]? = some (.cells cs t (0, 0))) (hi : (P.info? ty).map (·.size) = some new.size) (hn : off + new.size ≤ cs.size) (h1 : new.all (·.oneCell') = true)
    (h : ∀ w', w'.heap[g]? = some (.cells (overC cs off new) t (0, 0)) → Kep (fun b => b = g) w w' → wpList P ops Q rest (a.put o.dst undef) w') : wpList P ops Q (o :: rest) a w :=
  wpList_plain hgd fun K hK => wp_st_part ho hx hy hg hi hn h1 (fun w' h1 h2 => hK _ _ (h w' h1 h2))
theorem wp_mk {o : Oper} {a : Act} {w : World} {K : Act → World → Prop} {T E : TypeId} {k : IntKind} {by' : Nat} {x y : Operand} (ho : o.op = .makeSlice T x y) (n : Nat) (hx : a.eval x = .int .i64 n) (hy : a.eval y = .int .i64 n) (ht : P.underlying T = some (.slice E)) (hi : (P.info? E).map (fun i => (i.zero, i.size, i.bytes)) = some (some (.int k 0), 1, by'))
    (hn : by' * n ≤ 281474976710656) (h63 : n ≤ 9223372036854775807)
    (h : ∀ (W : World) (g : Nat), W.heap[g]? = some (.cells (ints k (zerosL n)) E (0, 0)) → Below w.heap.size w W → w.heap.size ≤ g → RowKit.Hid (g < W.heap.size) → K (a.put o.dst (.slice (some ⟨g, 0, none⟩) n n)) W) : o.wp P a w K Q := by
  unfold Oper.wp execOp
  simp only [ho, hx, hy, Sem.run_bind, run_make_ints ht hi n hn h63 w, Result.andThen_ok]
  exact h (w.alloc (.cells (ints k (zerosL n)) E)) w.heap.size (heap_alloc_new w _) ((Below.refl _ _).alloc (Nat.le_refl _) _) (Nat.le_refl _) (by show _ < _; simp)
/-- make of bytes: the world by name. -/
theorem mk_abs {rest : List Oper} {o : Oper} {a : Act} {w : World} (hgd : o.guard = none) {T E : TypeId} {k : IntKind} {by' : Nat} {x y : Operand} (ho : o.op = .makeSlice T x y) (n : Nat) (hx : a.eval x = .int .i64 n) (hy : a.eval y = .int .i64 n) (ht : P.underlying T = some (.slice E)) (hi : (P.info? E).map (fun i => (i.zero, i.size, i.bytes)) = some (some (.int k 0), 1, by'))
    (hn : by' * n ≤ 281474976710656) (h63 : n ≤ 9223372036854775807)
    (h : ∀ (W : World) (g : Nat), W.heap[g]? = some (.cells (ints k (zerosL n)) E (0, 0)) → Below w.heap.size w W → w.heap.size ≤ g → RowKit.Hid (g < W.heap.size) → wpList P ops Q rest (a.put o.dst (.slice (some ⟨g, 0, none⟩) n n)) W) : wpList P ops Q (o :: rest) a w :=
  wpList_plain hgd fun K hK => wp_mk ho n hx hy ht hi hn h63 (fun W g h1 h2 h3 h4 => hK _ _ (h W g h1 h2 h3 h4))
theorem wpOp_of {K : Act → World → Prop} {i : Nat} {o : Oper} {a : Act} {w : World} (ho : (ops.toList.drop i).head? = some o) (hg : o.guard = none) (h : o.wp P a w K Q) : wpOp P ops Q i K a w := by
  unfold wpOp
  simp only [at_of_drop ho]
  rw [if_pos (by simp [Region.wanted, hg])]
  exact .inl h
/-- A region of open order whose end is told by what holds there, R, whatever the order was. -/
theorem wp_region_via {id : Nat} {a : Act} {w : World} (E : List Nat) (S : List Bool → World → Prop) (R : Act → Act → World → Prop) (hm : P.follows .mixedOrders = true)
    (h1 : (∀ a' w', R a a' w' → Q .normal a' w') → wpAnyE P .any ops Q E S ops.size (Array.replicate ops.size false) a w.drew)
    (h2 : ∀ a' w', R a a' w' → Q .normal a' w') : (Code.region id ops true).wp P Q a w :=
  wp_region_E E S hm (h1 h2)
end
end Go.Proofs.YtjieiijbgbkikaaDoor
end
section
/- Law 9: what Check says of a packet with a field changed. -/
namespace Go.Proofs.YtjieiijbgbkikaaDoor
open Go Go.RowKit
set_option maxRecDepth 100000
/-- Strings compared, as the walk spells it. -/
theorem str_beqL {a b : List Int} (ha : Bd 256 a) (hb : Bd 256 b) : ((strOfNums a).toList == (strOfNums b).toList) = decide (a = b) := by
  by_cases h : a = b
  · subst h; simp
  · have hn : (strOfNums a).toList ≠ (strOfNums b).toList := by
      intro e
      rw [ByteArray.toList_eq, ByteArray.toList_eq] at e
      refine h (strOfNums_inj ha hb ?_)
      cases hx : strOfNums a
      cases hy : strOfNums b
      rw [hx, hy] at e
      congr 1
      exact Array.toList_inj.1 e
    simp [h, hn]
/-- Check, kind by kind. -/
def chk (x : Pkt) (bl : Nat) : Bool :=
  if x.kind = 1 then mayS 0 x bl && zeroS 1 x bl && zeroS 2 x bl && zeroS 3 x bl && mayS 4 x bl && zeroS 5 x bl
  else if x.kind = 2 then zeroS 0 x bl && mayS 1 x bl && mayS 2 x bl && zeroS 3 x bl && mayS 4 x bl && zeroS 5 x bl
  else if x.kind = 3 then zeroS 0 x bl && mayS 1 x bl && mayS 2 x bl && mayS 3 x bl && zeroS 4 x bl && mayS 5 x bl
  else if x.kind = 4 then zeroS 0 x bl && mayS 1 x bl && zeroS 2 x bl && zeroS 3 x bl && zeroS 4 x bl && zeroS 5 x bl
  else false
theorem checkS_chk (x : Pkt) (bl : Nat) : checkS x bl = if chk x bl then 0 else 2 := by
  unfold checkS chk hasS
  split
  · rename_i h1
    simp [okTo, partOk, hasS, h1]
  split
  · rename_i h1 h2
    simp [okTo, partOk, hasS, h2]
  split
  · rename_i h1 h2 h3
    simp [okTo, partOk, hasS, h3]
  split
  · rename_i h1 h2 h3 h4
    simp [okTo, partOk, hasS, h4]
  · simp
theorem checkS_iff (x : Pkt) (bl : Nat) : checkS x bl = 0 ↔ chk x bl = true := by
  rw [checkS_chk]
  cases chk x bl <;> simp
theorem check_kinds {x : Pkt} {bl : Nat} (h : checkS x bl = 0) : x.kind = 1 ∨ x.kind = 2 ∨ x.kind = 3 ∨ x.kind = 4 := by
  rw [checkS_iff] at h
  unfold chk at h
  split at h
  · exact .inl ‹_›
  split at h
  · exact .inr (.inl ‹_›)
  split at h
  · exact .inr (.inr (.inl ‹_›))
  split at h
  · exact .inr (.inr (.inr ‹_›))
  · cases h
theorem ok_peer1 {x : Pkt} (hx : PktOk x) : PktOk { x with peer := 1 } := ⟨hx.session, hx.epoch, hx.count, hx.random, hx.mark, hx.randomB, hx.markB⟩
theorem ok_count1 {x : Pkt} (hx : PktOk x) : PktOk { x with count := 1 } := ⟨hx.session, hx.epoch, (show u64lim 1 from ⟨by decide, by decide⟩), hx.random, hx.mark, hx.randomB, hx.markB⟩
def one16 : List Int := [1, 0, 0, 0, 0, 0, 0, 0, 0, 0, 0, 0, 0, 0, 0, 0]
theorem one16_bd : Bd 256 one16 := Bd.of_mem (by decide) (by decide)
theorem ok_random1 {x : Pkt} (hx : PktOk x) : PktOk { x with random := one16 } := ⟨hx.session, hx.epoch, hx.count, (show one16.length = 16 from rfl), hx.mark, one16_bd, hx.markB⟩
theorem one16_ne : one16 ≠ zerosL 16 := by decide
theorem fields_peer {x : Pkt} {bl : Nat} (h : checkS x bl = 0) : (checkS { x with peer := 1 } bl == 0) = (x.kind == 1) := by
  rw [checkS_chk]
  rw [checkS_iff] at h
  unfold chk mayS zeroS at h ⊢
  by_cases h1 : x.kind = 1
  · simp [h1] at h ⊢; simp [h]
  by_cases h2 : x.kind = 2
  · simp [h2] at h ⊢
  by_cases h3 : x.kind = 3
  · simp [h3] at h ⊢
  by_cases h4 : x.kind = 4
  · simp [h4] at h ⊢
  simp [h1, h2, h3, h4] at h
theorem fields_count {x : Pkt} {bl : Nat} (h : checkS x bl = 0) : (checkS { x with count := 1 } bl == 0) = (x.kind == 3) := by
  rw [checkS_chk]
  rw [checkS_iff] at h
  unfold chk mayS zeroS at h ⊢
  by_cases h1 : x.kind = 1
  · simp [h1] at h ⊢
  by_cases h2 : x.kind = 2
  · simp [h2] at h ⊢
  by_cases h3 : x.kind = 3
  · simp [h3] at h ⊢; simp [h]
  by_cases h4 : x.kind = 4
  · simp [h4] at h ⊢
  simp [h1, h2, h3, h4] at h
theorem fields_random {x : Pkt} {bl : Nat} (h : checkS x bl = 0) : (checkS { x with random := one16 } bl == 0) = (x.kind == 1 || x.kind == 2) := by
  have hn := one16_ne
  rw [checkS_chk]
  rw [checkS_iff] at h
  unfold chk mayS zeroS at h ⊢
  by_cases h1 : x.kind = 1
  · simp [h1] at h ⊢; simp [h]
  by_cases h2 : x.kind = 2
  · simp [h2] at h ⊢; simp [h]
  by_cases h3 : x.kind = 3
  · simp [h3, hn] at h ⊢
  by_cases h4 : x.kind = 4
  · simp [h4, hn] at h ⊢
  simp [h1, h2, h3, h4] at h
theorem fields_body {x : Pkt} {bl : Nat} (h : checkS x bl = 0) : (checkS x 16 == 0) = (x.kind == 3) := by
  rw [checkS_chk]
  rw [checkS_iff] at h
  unfold chk mayS zeroS at h ⊢
  by_cases h1 : x.kind = 1
  · simp [h1] at h ⊢
  by_cases h2 : x.kind = 2
  · simp [h2] at h ⊢
  by_cases h3 : x.kind = 3
  · simp [h3] at h ⊢; simp [h]
  by_cases h4 : x.kind = 4
  · simp [h4] at h ⊢
  simp [h1, h2, h3, h4] at h
end Go.Proofs.YtjieiijbgbkikaaDoor
end
