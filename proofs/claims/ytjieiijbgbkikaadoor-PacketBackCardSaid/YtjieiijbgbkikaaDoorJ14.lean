/- Lemmas of a proof over the given program, joined by wip/join.py: KHeldG KL9W KOpenA KRowW. -/
import Derived.Test.YtjieiijbgbkikaaDoorJ03
import Derived.Test.YtjieiijbgbkikaaDoorJ13
import Derived.Carry
import Derived.SevenTiedAt
set_option linter.unusedSimpArgs false
set_option linter.unusedVariables false
section
/- Guarded operations in a region of open order. No program is used here. -/
namespace Go.Proofs.YtjieiijbgbkikaaDoor
open Go
section
variable {P : Program} {md : Region.Mode} {ops : Array Oper} {Q : Exit → Act → World → Prop} {A B : World → Prop} {e : Nat}
/-- Taken first: a guarded operation that is wanted. -/
theorem takeAg {i : Nat} {oi : Oper} {v : Value} {fuel : Nat} {listed : Array Bool} {a : Act} {w : World} (hi : (ops.toList.drop i).head? = some oi)
    (ht : takeOk md ops [e] listed i = true) (hQ : ∀ c a w, Q (.panic c) (a.put oi.dst v) w → Q (.panic c) a w) (hw : Region.wanted oi (yielded ops a.tmps) = true)
    (hS : S1 A B (flags [e] listed) w) (hy : ∀ w, A w → (execOp a.eval oi).run P w = .ok (.value v) w)
    (h : wpAnyE P md ops Q [e] (S1 A B) fuel (listed.setIfInBounds i true) (a.put oi.dst v) w) : wpAnyE P md ops Q [e] (S1 A B) (fuel + 1) listed a w :=
  wpAnyE_take (at_of_drop hi) ht hQ (.inl ⟨hw, fun w' ⟨_, _, hs⟩ => hy w' hs.any⟩) hS h
/-- Passed by: a guarded operation that is not wanted. -/
theorem takeN {i : Nat} {oi : Oper} {fuel : Nat} {listed : Array Bool} {a : Act} {w : World} (hi : (ops.toList.drop i).head? = some oi)
    (ht : takeOk md ops [e] listed i = true) (hQ : ∀ c a w, Q (.panic c) (a.put oi.dst undef) w → Q (.panic c) a w) (hw : Region.wanted oi (yielded ops a.tmps) = false)
    (hS : S1 A B (flags [e] listed) w)
    (h : wpAnyE P md ops Q [e] (S1 A B) fuel (listed.setIfInBounds i true) (a.put oi.dst undef) w) : wpAnyE P md ops Q [e] (S1 A B) (fuel + 1) listed a w :=
  wpAnyE_take (at_of_drop hi) ht hQ (.inr ⟨hw, rfl⟩) hS h
theorem runOneG {i : Nat} {o : Oper} {fuel : Nat} {listed : Array Bool} {a : Act} {w : World} (hr : Region.ready md ops listed = [i]) (ho : (ops.toList.drop i).head? = some o) (hw : Region.wanted o (yielded ops a.tmps) = true)
    (h : o.wp P a w (fun a' w' => S1 A B (flags [e] (listed.setIfInBounds i true)) w' ∧ wpAnyE P md ops Q [e] (S1 A B) fuel (listed.setIfInBounds i true) a' w') Q) :
    wpAnyE P md ops Q [e] (S1 A B) (fuel + 1) listed a w :=
  wpAnyE_all hr (by simp) fun j hj => by
    have : j = i := by simpa using hj
    subst this
    unfold wpOp
    simp only [at_of_drop ho]
    rw [if_pos hw]
    exact .inl h
theorem runOneN {i : Nat} {o : Oper} {fuel : Nat} {listed : Array Bool} {a : Act} {w : World} (hr : Region.ready md ops listed = [i]) (ho : (ops.toList.drop i).head? = some o) (hw : Region.wanted o (yielded ops a.tmps) = false)
    (hS : S1 A B (flags [e] (listed.setIfInBounds i true)) w) (h : wpAnyE P md ops Q [e] (S1 A B) fuel (listed.setIfInBounds i true) (a.put o.dst undef) w) :
    wpAnyE P md ops Q [e] (S1 A B) (fuel + 1) listed a w :=
  wpAnyE_all hr (by simp) fun j hj => by
    have : j = i := by simpa using hj
    subst this
    unfold wpOp
    simp only [at_of_drop ho]
    rw [if_neg (by rw [hw]; decide)]
    exact ⟨hS, h⟩
/-- From here on more is held. -/
theorem wpAnyE_strong {E : List Nat} {S S' : List Bool → World → Prop} (h : ∀ fl w, S' fl w → S fl w) : ∀ (fuel : Nat) (listed : Array Bool) (a : Act) (w : World), wpAnyE P md ops Q E S' fuel listed a w → wpAnyE P md ops Q E S fuel listed a w
  | 0, _, _, _, h0 => h0
  | fuel + 1, _, _, _, h0 => ⟨h0.1, fun i hi => wpOp_mono (fun _ _ h' => ⟨h _ _ h'.1, wpAnyE_strong h fuel _ _ _ h'.2⟩) (h0.2 i hi)⟩
theorem strongA {A' : World → Prop} (h : ∀ w, A' w → A w) {fuel : Nat} {listed : Array Bool} {a : Act} {w : World} (hh : wpAnyE P md ops Q [e] (S1 A' B) fuel listed a w) : wpAnyE P md ops Q [e] (S1 A B) fuel listed a w :=
  wpAnyE_strong (fun fl w hs => by
    match fl, hs with
    | [_], hs => exact ⟨h _ hs.1, hs.2⟩) _ _ _ _ hh
/-- A conversion's value, given as an equation. -/
theorem exec_conv {o : Oper} {a : Act} {w : World} {src dst : TypeId} {x : Operand} {v u : Value} (ho : o.op = .convert src dst x) (hx : a.eval x = v) (h : (convert src dst v).run P w = .ok u w) :
    (execOp a.eval o).run P w = .ok (.value u) w := by
  unfold execOp
  simp only [ho, hx, Sem.run_bind, h, Result.andThen_ok]
  rfl
end
end Go.Proofs.YtjieiijbgbkikaaDoor
end
section
/- Law 9: PacketWays, the walk. -/
namespace Go.Proofs.YtjieiijbgbkikaaDoor
open Go Go.RowKit
set_option maxRecDepth 100000
attribute [local go_sem] cell?_eq frozen?_eq heap_setCell_eq heap_setCell_ne
theorem pkeyS_mod (secret : List Int) (epoch way : Int) : pkeyS secret epoch (way % 2) = pkeyS secret epoch way := by
  unfold pkeyS infoS
  rw [show way % 2 % 2 = way % 2 by omega]
/-- '!=' of two arrays of numbers that are the same. -/
theorem exec_neq_same {P : Program} {o : Oper} {a : Act} {w : World} {t e t' : TypeId} {n : Nat} {k : IntKind} {x y : Operand} {l : List Int} (ho : o.op = .binOp .neq t x y t') (hx : a.eval x = .agg (ints k l)) (hy : a.eval y = .agg (ints k l))
    (ht : P.underlying t = some (.array n e)) (he : P.underlying e = some (.int k)) (hs : (P.info? e).map (·.size) = some 1) (hl : l.length = n) (hm : P.eqGuardType P.depth t = false) : (execOp a.eval o).run P w = .ok (.value (.bool false)) w := by
  have h := run_neq_ints w ht he hs l l hl hl
  rw [beq_self_eq_true] at h
  unfold execOp
  simp only [ho, hx, hy, Sem.run_bind, run_eqGuard_agg (P := P) (w := w) .neq t x y _ _ hm, h, Result.andThen_ok]
  rfl
def alongS (x : Pkt) : List Int := if alongOk x = true then writeS x [] else []
theorem AlongPost.form {x : Pkt} {w w' : World} {e : Ending} (h : AlongPost x w e w') : ∃ p c, e = .returned (.slice p (alongS x).length c) ∧ SL .u8 w' p (alongS x) ∧ Below w.heap.size w w' := by
  obtain ⟨v, rfl, h1, h2, hB⟩ := h
  unfold alongS
  cases ha : alongOk x with
  | true =>
    obtain ⟨p, c, rfl, hS, _⟩ := (h1 ha).form
    rw [if_pos rfl]
    exact ⟨p, c, rfl, hS, hB⟩
  | false =>
    rw [if_neg (by decide)]
    exact ⟨none, 0, by rw [h2 ha]; rfl, SL.nil _ _ _, hB⟩
set_option maxHeartbeats 16000000 in
theorem ways9_any (secret : List Int) (hs : secret.length = 32) (hsB : Bd 256 secret) (way : Int) (hway : -9223372036854775808 ≤ way ∧ way < 9223372036854775808) (epoch : Int) (he : 0 ≤ epoch ∧ epoch < 4294967296) (x : Pkt) (hx : PktOk x)
    (m : List Int) (p : Option Addr) (cp : Nat) (b : List Int) (q : Option Addr) (cq : Nat) (w : World) (hR : Rnd w) (hC : Cols w) (hp : SL .u8 w p m) (hq : SL .u8 w q b) :
    Calls Tryd.prog 4 #[.agg (ints .u8 secret), .int .i64 way, .int .u32 epoch, .agg (pktC x (.slice p m.length cp)), .slice q b.length cq] w fun e w' => e = .returned (.bool true) ∧ Below w.heap.size w w' := by
  have hRlt := Lib.hid hR.lt
  have hClt := Lib.hid hC.lt
  go_enter Tryd.func4, Tryd.ntmps4
  go_wp2_with (first | (refine bx_abs rfl (ty := 31) rfl rfl ?_; intro W0 S hS0 hB0 hzS hzS') | (refine bx_abs rfl (ty := 27) rfl rfl ?_; intro W X hX hBX hzX hzX') | (go_at_call 9; fail))
  have hS1 := below_blk hBX hS0
  have hB1 := hB0.trans (hBX.mono hB0.size)
  clear hS0 hBX hB0
  refine (lives9_any W (hR.below hB1 hRlt.out) (hC.below hB1 hClt.out)).mono ?_
  rintro e w2 ⟨rfl, hB2⟩
  have hS2 := below_blk hB2 hS1
  have hX2 := below_blk hB2 hX
  have hBw2 := hB1.trans (hB2.mono hB1.size)
  clear hS1 hX hB2 hB1
  by_cases hm : 300 < m.length
  · have i1 : (300 : Int) < (m.length : Int) := by omega
    go_wp2
    go_ret
    exact ⟨rfl, hBw2⟩
  have i1 : ¬ (300 : Int) < (m.length : Int) := by omega
  by_cases hb : 300 < b.length
  · have i2 : (300 : Int) < (b.length : Int) := by omega
    go_wp2
    go_ret
    exact ⟨rfl, hBw2⟩
  have i2 : ¬ (300 : Int) < (b.length : Int) := by omega
  go_wp2_with (go_at_call 12; fail)
  refine (pick2_any way hway w2).mono ?_
  rintro e w3 ⟨rfl, rfl⟩
  go_wp2
  have hldS : ∀ wx : World, wx.heap[S]? = some (.cells (ints .u8 secret) 31 (0, 0)) → (Instr.loadAt 31 (.pointer (some ⟨S, 0, none⟩))).run Tryd.prog wx = .ok (.agg (ints .u8 secret)) wx := fun wx hq => run_loadAt_row (P := Tryd.prog) (ty := 31) hq Tryd.underlying31 rfl (by kernel_rfl) (by rw [size_ints, hs])
  have HLS := Lib.hid hldS
  have hkl := pkeyS_len secret epoch way
  have hkm := pkeyS_mod secret epoch way
  have HKM := Lib.hid hkm
  clear hldS hkm
  refine wp_region_E [3] (S1 (fun w' => w'.heap[S]? = some (.cells (ints .u8 secret) 31 (0, 0))) (fun _ => True)) (by kernel_rfl) ?_
  have hI0 : S1 (fun w' => w'.heap[S]? = some (.cells (ints .u8 secret) 31 (0, 0))) (fun _ => True) [false] w2.drew := ⟨hS2, fun _ => trivial⟩
  have hBd2 : Below w.heap.size w w2.drew := hBw2.drew
  try simp only [Act.put, List.setIfInBounds_toArray, List.set_cons_zero, List.set_cons_succ]
  refine takeA (i := 0) (v := ?_) rfl (by kernel_rfl) (fun _ _ _ h => h) rfl (by exact hI0) (fun wx hx => ?_) ?_
  rotate_left
  · refine (exec_load (p := .pointer (some ⟨S, 0, none⟩)) rfl rfl (HLS.out _ hx)).trans ?_; with_reducible rfl
  try simp only [Act.put, List.setIfInBounds_toArray, List.set_cons_zero, List.set_cons_succ]
  refine takeA (i := 1) (v := ?_) rfl (by kernel_rfl) (fun _ _ _ h => h) rfl (by exact hI0) (fun wx hx => ?_) ?_
  rotate_left
  · go_simp; try with_reducible rfl
  try simp only [Act.put, List.setIfInBounds_toArray, List.set_cons_zero, List.set_cons_succ]
  refine takeA (i := 2) (v := ?_) rfl (by kernel_rfl) (fun _ _ _ h => h) rfl (by exact hI0) (fun wx hx => ?_) ?_
  rotate_left
  · go_simp; try with_reducible rfl
  try simp only [Act.put, List.setIfInBounds_toArray, List.set_cons_zero, List.set_cons_succ]
  refine takeA (i := 4) (v := ?_) rfl (by kernel_rfl) (fun _ _ _ h => h) rfl (by exact hI0) (fun wx hx => ?_) ?_
  rotate_left
  · refine (exec_load (p := .pointer (some ⟨S, 0, none⟩)) rfl rfl (HLS.out _ hx)).trans ?_; with_reducible rfl
  try simp only [Act.put, List.setIfInBounds_toArray, List.set_cons_zero, List.set_cons_succ]
  refine takeA (i := 5) (v := ?_) rfl (by kernel_rfl) (fun _ _ _ h => h) rfl (by exact hI0) (fun wx hx => ?_) ?_
  rotate_left
  · go_simp; try with_reducible rfl
  try simp only [Act.put, List.setIfInBounds_toArray, List.set_cons_zero, List.set_cons_succ]
  refine takeA (i := 6) (v := ?_) rfl (by kernel_rfl) (fun _ _ _ h => h) rfl (by exact hI0) (fun wx hx => ?_) ?_
  rotate_left
  · go_simp; try with_reducible rfl
  try simp only [Act.put, List.setIfInBounds_toArray, List.set_cons_zero, List.set_cons_succ]
  refine runOne (i := 3) (by kernel_rfl) rfl rfl ?_
  go_simp
  refine (pkey_any secret hs hsB epoch way he.1 he.2 w2.drew (hR.below hBd2 hRlt.out)).mono ?_
  rintro e w4 ⟨rfl, hB4⟩
  have hBw4 := hBd2.trans (hB4.mono hBd2.size)
  have hS4 := below_blk hB4 (show w2.drew.heap[S]? = _ from hS2)
  have hX4 := below_blk hB4 (show w2.drew.heap[X]? = _ from hX2)
  have hI1 : S1 (fun w' => w'.heap[S]? = some (.cells (ints .u8 secret) 31 (0, 0))) (fun _ => True) [true] w4 := ⟨hS4, fun _ => trivial⟩
  refine ⟨by exact hI1, ?_⟩
  try simp only [Act.put, List.setIfInBounds_toArray, List.set_cons_zero, List.set_cons_succ]
  refine runOne (i := 7) (by kernel_rfl) rfl rfl ?_
  go_simp
  refine (pkey_any secret hs hsB epoch (way % 2) he.1 he.2 w4 (hR.below hBw4 hRlt.out)).mono ?_
  rw [HKM.out]
  rintro e w5 ⟨rfl, hB5⟩
  have hBw5 := hBw4.trans (hB5.mono hBw4.size)
  have hS5 := below_blk hB5 hS4
  have hX5 := below_blk hB5 hX4
  have hI2 : S1 (fun w' => w'.heap[S]? = some (.cells (ints .u8 secret) 31 (0, 0))) (fun _ => True) [true] w5 := ⟨hS5, fun _ => trivial⟩
  refine ⟨by exact hI2, ?_⟩
  try simp only [Act.put, List.setIfInBounds_toArray, List.set_cons_zero, List.set_cons_succ]
  refine takeA (i := 8) (v := ?_) rfl (by kernel_rfl) (fun _ _ _ h => h) rfl (by exact hI2) (fun wx hx => ?_) ?_
  rotate_left
  · refine (exec_neq_same (l := pkeyS secret epoch way) (by rfl) (by rfl) (by rfl) Tryd.underlying31 Tryd.underlying5 (by kernel_rfl) hkl (by kernel_rfl)).trans ?_; with_reducible rfl
  try simp only [Act.put, List.setIfInBounds_toArray, List.set_cons_zero, List.set_cons_succ]
  refine wpAnyE_done (by kernel_rfl) ?_ _
  go_wp2_with (first | (refine ld_row rfl (ty := 27) rfl rfl hX5 Tryd.underlying27 rfl (by kernel_rfl) (pktC_size _ _) ?_) | (refine al_abs rfl (T := 27) rfl (cs := pktC pkt0 (.slice none 0 0)) (by kernel_rfl) ?_; intro w6 Y hY6 hB6 hzY hzY') | (refine st_row rfl (ty := 27) (cs := pktC x (.slice p m.length cp)) rfl rfl rfl (by exact hY6) (n := 38) (by kernel_rfl) (pktC_size _ _) (pktC_size _ _) (pktC_one _ _ rfl) ?_; have hY7 := setRow_heap w6 Y _ (pktC x (.slice p m.length cp)) _ _ hY6; have hk7 : Kep (fun b => b = Y) w5 (w6.setRow Y (pktC x (.slice p m.length cp))) := Kep.setRow (S := fun b => b = Y) (g := Y) (Kep.of_below hB6 (fun b hb _ => hb)) (.inl rfl) _; generalize w6.setRow Y (pktC x (.slice p m.length cp)) = w7 at *; clear hY6 hB6))
  have hXY : X ≠ Y := fun e => by have := (Array.getElem?_eq_some_iff.1 hX5).1; omega
  have hSY : S ≠ Y := fun e => by have := (Array.getElem?_eq_some_iff.1 hS5).1; omega
  have hY8 : (w7.setCell ⟨Y, 37, none⟩ (.slice q b.length cq)).heap[Y]? = some (.cells (pktC x (.slice q b.length cq)) 27 (0, 0)) := by rw [heap_setCell_eq, hY7, putOf_some, pktC_set_body]
  have hk8 := hk7.setCell (g := Y) (o := 37) (.inl rfl) (.slice q b.length cq)
  have hX8 := hk8.heap hX5 hXY
  have hS8 := hk8.heap hS5 hSY
  have hBw8 := hk8.below hBw5 hBw5.size (fun k e => by have := hBw5.size; omega)
  generalize w7.setCell ⟨Y, 37, none⟩ (.slice q b.length cq) = w8 at *
  have hq8 := hq.below hBw8
  clear hk8 hk7 hY7 hX5 hS5 hBw5 hB5 hI2 hX4 hS4 hBw4 hB4 hI1 hBd2 hI0 hX2 hS2 hBw2
  have hldX : ∀ wx : World, wx.heap[X]? = some (.cells (pktC x (.slice p m.length cp)) 27 (0, 0)) → (Instr.loadAt 27 (.pointer (some ⟨X, 0, none⟩))).run Tryd.prog wx = .ok (.agg (pktC x (.slice p m.length cp))) wx := fun wx hq => run_loadAt_row (P := Tryd.prog) (ty := 27) hq Tryd.underlying27 rfl (by kernel_rfl) (pktC_size _ _)
  have hldY : ∀ wx : World, wx.heap[Y]? = some (.cells (pktC x (.slice q b.length cq)) 27 (0, 0)) → (Instr.loadAt 27 (.pointer (some ⟨Y, 0, none⟩))).run Tryd.prog wx = .ok (.agg (pktC x (.slice q b.length cq))) wx := fun wx hq => run_loadAt_row (P := Tryd.prog) (ty := 27) hq Tryd.underlying27 rfl (by kernel_rfl) (pktC_size _ _)
  have HLX := Lib.hid hldX
  have HLY := Lib.hid hldY
  have hal := fun (p : Option Addr) (bl cap : Nat) (w : World) => (along_any x hx p bl cap w).mono (fun e w' h => h.form)
  have hZ : x.kind ≠ 3 → alongS x = [] := fun h => by unfold alongS alongOk; simp [h]
  obtain ⟨L, hL⟩ : ∃ L, L = alongS x := ⟨_, rfl⟩
  rw [← hL] at hal hZ
  have HAL := Lib.hid hal
  clear hldX hldY hL hal
  have hBd8 : Below w.heap.size w w8.drew := hBw8.drew
  have hcell : ∀ wx : World, wx.heap[X]? = some (.cells (pktC x (.slice p m.length cp)) 27 (0, 0)) → wx.cell? ⟨X, 0, none⟩ = some (.int .i64 x.kind) := fun wx h => by rw [cell?_eq, h, cellOf_some, pktC_kind]
  have HCK := Lib.hid hcell
  clear hcell
  have hT : ∀ w' : World, w'.heap[X]? = some (.cells (pktC x (.slice p m.length cp)) 27 (0, 0)) ∧ w'.heap[Y]? = some (.cells (pktC x (.slice q b.length cq)) 27 (0, 0)) → True := fun _ _ => trivial
  by_cases h3 : x.kind = 3
  · have b2 : (x.kind != 3) = false := by simp [h3]
    clear h3 hZ
    refine wp_region_E [1] (S1 (fun w' => w'.heap[X]? = some (.cells (pktC x (.slice p m.length cp)) 27 (0, 0)) ∧ w'.heap[Y]? = some (.cells (pktC x (.slice q b.length cq)) 27 (0, 0))) (fun _ => True)) (by kernel_rfl) ?_
    have hI0 : S1 (fun w' => w'.heap[X]? = some (.cells (pktC x (.slice p m.length cp)) 27 (0, 0)) ∧ w'.heap[Y]? = some (.cells (pktC x (.slice q b.length cq)) 27 (0, 0))) (fun _ => True) [false] w8.drew := ⟨⟨hX8, hY8⟩, fun _ => trivial⟩
    try simp only [Act.put, List.setIfInBounds_toArray, List.set_cons_zero, List.set_cons_succ]
    refine takeA (i := 0) (v := ?_) rfl (by kernel_rfl) (fun _ _ _ h => h) rfl (by exact hI0) (fun wx hx => ?_) ?_
    rotate_left
    · refine (exec_load (p := .pointer (some ⟨Y, 0, none⟩)) rfl rfl (HLY.out _ hx.2)).trans ?_; with_reducible rfl
    try simp only [Act.put, List.setIfInBounds_toArray, List.set_cons_zero, List.set_cons_succ]
    refine takeA (i := 3) (v := ?_) rfl (by kernel_rfl) (fun _ _ _ h => h) rfl (by exact hI0) (fun wx hx => ?_) ?_
    rotate_left
    · refine (exec_load (p := .pointer (some ⟨X, 0, none⟩)) rfl rfl (HLX.out _ hx.1)).trans ?_; with_reducible rfl
    try simp only [Act.put, List.setIfInBounds_toArray, List.set_cons_zero, List.set_cons_succ]
    refine runOne (i := 1) (by kernel_rfl) rfl rfl ?_
    go_simp
    refine (HAL.out q b.length cq w8.drew).mono ?_
    rintro e w9 ⟨p9, c9, rfl, hS9, hB9⟩
    have hBw9 := hBd8.trans (hB9.mono hBd8.size)
    have hS_9 := below_blk hB9 (show w8.drew.heap[S]? = _ from hS8)
    have hX9 := below_blk hB9 (show w8.drew.heap[X]? = _ from hX8)
    have hY9 := below_blk hB9 (show w8.drew.heap[Y]? = _ from hY8)
    refine ⟨⟨⟨hX9, hY9⟩, fun _ => trivial⟩, ?_⟩
    refine strongA (A' := fun w' => (w'.heap[X]? = some (.cells (pktC x (.slice p m.length cp)) 27 (0, 0)) ∧ w'.heap[Y]? = some (.cells (pktC x (.slice q b.length cq)) 27 (0, 0))) ∧ SL .u8 w' p9 L) (fun _ h => h.1) ?_
    have hI1 : S1 (fun w' => (w'.heap[X]? = some (.cells (pktC x (.slice p m.length cp)) 27 (0, 0)) ∧ w'.heap[Y]? = some (.cells (pktC x (.slice q b.length cq)) 27 (0, 0))) ∧ SL .u8 w' p9 L) (fun _ => True) [true] w9 := ⟨⟨⟨hX9, hY9⟩, hS9⟩, fun _ => trivial⟩
    try simp only [Act.put, List.setIfInBounds_toArray, List.set_cons_zero, List.set_cons_succ]
    refine takeA (i := 2) (v := ?_) rfl (by kernel_rfl) (fun _ _ _ h => h) rfl (by exact hI1) (fun wx hx => ?_) ?_
    rotate_left
    · refine (exec_conv (v := .slice p9 L.length c9) rfl rfl (run_str (P := Tryd.prog) (dst := 9) Tryd.underlying25 Tryd.underlying5 Tryd.underlying9 hx.2 _ _ rfl)).trans ?_; with_reducible rfl
    try simp only [Act.put, List.setIfInBounds_toArray, List.set_cons_zero, List.set_cons_succ]
    refine runOne (i := 4) (by kernel_rfl) rfl rfl ?_
    go_simp
    refine (HAL.out p m.length cp w9).mono ?_
    rintro e w10 ⟨p10, c10, rfl, hS10, hB10⟩
    have hBw10 := hBw9.trans (hB10.mono hBw9.size)
    have hS_10 := below_blk hB10 hS_9
    have hX10 := below_blk hB10 hX9
    have hY10 := below_blk hB10 hY9
    have hSb10 := hS9.below hB10
    refine ⟨⟨⟨⟨hX10, hY10⟩, hSb10⟩, fun _ => trivial⟩, ?_⟩
    refine strongA (A' := fun w' => ((w'.heap[X]? = some (.cells (pktC x (.slice p m.length cp)) 27 (0, 0)) ∧ w'.heap[Y]? = some (.cells (pktC x (.slice q b.length cq)) 27 (0, 0))) ∧ SL .u8 w' p9 L) ∧ SL .u8 w' p10 L) (fun _ h => h.1) ?_
    have hI2 : S1 (fun w' => ((w'.heap[X]? = some (.cells (pktC x (.slice p m.length cp)) 27 (0, 0)) ∧ w'.heap[Y]? = some (.cells (pktC x (.slice q b.length cq)) 27 (0, 0))) ∧ SL .u8 w' p9 L) ∧ SL .u8 w' p10 L) (fun _ => True) [true] w10 := ⟨⟨⟨⟨hX10, hY10⟩, hSb10⟩, hS10⟩, fun _ => trivial⟩
    try simp only [Act.put, List.setIfInBounds_toArray, List.set_cons_zero, List.set_cons_succ]
    refine takeA (i := 5) (v := ?_) rfl (by kernel_rfl) (fun _ _ _ h => h) rfl (by exact hI2) (fun wx hx => ?_) ?_
    rotate_left
    · refine (exec_conv (v := .slice p10 L.length c10) rfl rfl (run_str (P := Tryd.prog) (dst := 9) Tryd.underlying25 Tryd.underlying5 Tryd.underlying9 hx.2 _ _ rfl)).trans ?_; with_reducible rfl
    try simp only [Act.put, List.setIfInBounds_toArray, List.set_cons_zero, List.set_cons_succ]
    refine takeA (i := 6) (v := ?_) rfl (by kernel_rfl) (fun _ _ _ h => h) rfl (by exact hI2) (fun wx hx => ?_) ?_
    rotate_left
    · go_simp; try with_reducible rfl
    try simp only [Act.put, List.setIfInBounds_toArray, List.set_cons_zero, List.set_cons_succ]
    refine takeA (i := 7) (v := ?_) rfl (by kernel_rfl) (fun _ _ _ h => h) rfl (by exact hI2) (fun wx hx => ?_) ?_
    rotate_left
    · go_simp; try with_reducible rfl
    try simp only [Act.put, List.setIfInBounds_toArray, List.set_cons_zero, List.set_cons_succ]
    refine takeAg (i := 8) (v := ?_) rfl (by kernel_rfl) (fun _ _ _ h => h) rfl (by exact hI2) (fun wx hx => ?_) ?_
    rotate_left
    · go_simp; try with_reducible rfl
    try simp only [Act.put, List.setIfInBounds_toArray, List.set_cons_zero, List.set_cons_succ]
    refine takeAg (i := 9) (v := ?_) rfl (by kernel_rfl) (fun _ _ _ h => h) rfl (by exact hI2) (fun wx hx => ?_) ?_
    rotate_left
    · have hcx := HCK.out _ hx.1.1.1; go_simp; try with_reducible rfl
    try simp only [Act.put, List.setIfInBounds_toArray, List.set_cons_zero, List.set_cons_succ]
    refine takeAg (i := 10) (v := ?_) rfl (by kernel_rfl) (fun _ _ _ h => h) rfl (by exact hI2) (fun wx hx => ?_) ?_
    rotate_left
    · go_simp; try with_reducible rfl
    try simp only [Act.put, List.setIfInBounds_toArray, List.set_cons_zero, List.set_cons_succ]
    refine takeAg (i := 11) (v := ?_) rfl (by kernel_rfl) (fun _ _ _ h => h) rfl (by exact hI2) (fun wx hx => ?_) ?_
    rotate_left
    · go_simp; try with_reducible rfl
    try simp only [Act.put, List.setIfInBounds_toArray, List.set_cons_zero, List.set_cons_succ]
    refine takeN (i := 12) rfl (by kernel_rfl) (fun _ _ _ h => h) rfl (by exact hI2) ?_
    try simp only [Act.put, List.setIfInBounds_toArray, List.set_cons_zero, List.set_cons_succ]
    refine takeN (i := 13) rfl (by kernel_rfl) (fun _ _ _ h => h) rfl (by exact hI2) ?_
    try simp only [Act.put, List.setIfInBounds_toArray, List.set_cons_zero, List.set_cons_succ]
    refine takeN (i := 14) rfl (by kernel_rfl) (fun _ _ _ h => h) rfl (by exact hI2) ?_
    try simp only [Act.put, List.setIfInBounds_toArray, List.set_cons_zero, List.set_cons_succ]
    refine takeN (i := 15) rfl (by kernel_rfl) (fun _ _ _ h => h) rfl (by exact hI2) ?_
    try simp only [Act.put, List.setIfInBounds_toArray, List.set_cons_zero, List.set_cons_succ]
    refine takeAg (i := 16) (v := ?_) rfl (by kernel_rfl) (fun _ _ _ h => h) rfl (by exact hI2) (fun wx hx => ?_) ?_
    rotate_left
    · go_simp; try with_reducible rfl
    try simp only [Act.put, List.setIfInBounds_toArray, List.set_cons_zero, List.set_cons_succ]
    refine takeA (i := 17) (v := ?_) rfl (by kernel_rfl) (fun _ _ _ h => h) rfl (by exact hI2) (fun wx hx => ?_) ?_
    rotate_left
    · go_simp; try with_reducible rfl
    try simp only [Act.put, List.setIfInBounds_toArray, List.set_cons_zero, List.set_cons_succ]
    refine wpAnyE_done (by kernel_rfl) ?_ _
    have hq10 := hq.below hBw10
    clear hI0 hI1 hI2
    go_wp2_with (first | (refine ld_row rfl (ty := 31) rfl rfl hS_10 Tryd.underlying31 rfl (by kernel_rfl) (by rw [size_ints, hs]) ?_) | (go_at_call 8; fail))
    refine (pseal_any secret hs hsB way x.session x.epoch x.count hx.session hx.epoch hx.count b q cq w10 (hR.below hBw10 hRlt.out) (hC.below hBw10 hClt.out) hq10).mono ?_
    intro e w11 hP
    obtain ⟨hP, hB11⟩ := hP
    have hBw11 := (hBw10).trans (hB11.mono (hBw10).size)
    by_cases he0 : psealErr x.session x.epoch x.count b.length = 0
    · rw [if_pos he0] at hP
      obtain ⟨vb, rfl, hWr⟩ := hP
      obtain ⟨g, cg, rfl, _⟩ := hWr.sl
      rw [psealS_len]
      clear hX10 hY10 he0 hWr hX9 hY9 hX8 hY8 hS8 hB9 hBw9 hBd8 hBw8
      go_wp2_with (first | (refine al_abs rfl (T := 27) rfl (cs := pktC pkt0 (.slice none 0 0)) (by kernel_rfl) ?_; intro w12 Z hZ12 hB12 hzZ hzZ') | (refine st_row rfl (ty := 27) (cs := pktC (sealX x.session x.epoch x.count) (.slice (some ⟨g, 0, none⟩) (b.length + 16) cg)) rfl rfl rfl (by exact hZ12) (n := 38) (by kernel_rfl) (pktC_size _ _) (pktC_size _ _) (pktC_one _ _ rfl) ?_; have hZ13 := setRow_heap w12 Z _ (pktC (sealX x.session x.epoch x.count) (.slice (some ⟨g, 0, none⟩) (b.length + 16) cg)) _ _ hZ12; have hB13 := belowRow (hBw11.trans (hB12.mono hBw11.size)) (show w.heap.size ≤ Z by have := hBw11.size; omega) (pktC (sealX x.session x.epoch x.count) (.slice (some ⟨g, 0, none⟩) (b.length + 16) cg)); generalize w12.setRow Z (pktC (sealX x.session x.epoch x.count) (.slice (some ⟨g, 0, none⟩) (b.length + 16) cg)) = w13 at *; clear hZ12 hB12))
      go_ret
      exact ⟨rfl, hB13⟩
    · rw [if_neg he0] at hP
      subst hP
      obtain ⟨c, hc⟩ : ∃ c, c = psealErr x.session x.epoch x.count b.length := ⟨_, rfl⟩
      rw [← hc] at he0 ⊢
      have e2 : (c != 0) = true := bne_iff_ne.2 he0
      have e1 : (c == 0) = false := beq_eq_false_iff_ne.2 he0
      clear he0 hc hX9 hY9 hX8 hY8 hS8 hB9 hBw9 hBd8 hBw8
      go_wp2_with (first | (refine al_abs rfl (T := 27) rfl (cs := pktC pkt0 (.slice none 0 0)) (by kernel_rfl) ?_; intro w12 Z hZ12 hB12 hzZ hzZ') | (refine st_row rfl (ty := 27) (cs := pktC pkt0 (.slice none 0 0)) rfl rfl rfl (by exact hZ12) (n := 38) (by kernel_rfl) (pktC_size _ _) (pktC_size _ _) (pktC_one _ _ rfl) ?_; have hB13 := belowRow (hBw11.trans (hB12.mono hBw11.size)) (show w.heap.size ≤ Z by have := hBw11.size; omega) (pktC pkt0 (.slice none 0 0)); generalize w12.setRow Z (pktC pkt0 (.slice none 0 0)) = w13 at *; clear hZ12 hB12; go_wp2))
      go_ret
      exact ⟨rfl, hB13⟩
  · have b2 : (x.kind != 3) = true := bne_iff_ne.2 h3
    have hL0 : decide (0 < L.length) = false := by rw [hZ h3]; rfl
    clear h3 hZ
    refine wp_region_E [1] (S1 (fun w' => w'.heap[X]? = some (.cells (pktC x (.slice p m.length cp)) 27 (0, 0)) ∧ w'.heap[Y]? = some (.cells (pktC x (.slice q b.length cq)) 27 (0, 0))) (fun _ => True)) (by kernel_rfl) ?_
    have hI0 : S1 (fun w' => w'.heap[X]? = some (.cells (pktC x (.slice p m.length cp)) 27 (0, 0)) ∧ w'.heap[Y]? = some (.cells (pktC x (.slice q b.length cq)) 27 (0, 0))) (fun _ => True) [false] w8.drew := ⟨⟨hX8, hY8⟩, fun _ => trivial⟩
    try simp only [Act.put, List.setIfInBounds_toArray, List.set_cons_zero, List.set_cons_succ]
    refine takeA (i := 0) (v := ?_) rfl (by kernel_rfl) (fun _ _ _ h => h) rfl (by exact hI0) (fun wx hx => ?_) ?_
    rotate_left
    · refine (exec_load (p := .pointer (some ⟨Y, 0, none⟩)) rfl rfl (HLY.out _ hx.2)).trans ?_; with_reducible rfl
    try simp only [Act.put, List.setIfInBounds_toArray, List.set_cons_zero, List.set_cons_succ]
    refine takeA (i := 3) (v := ?_) rfl (by kernel_rfl) (fun _ _ _ h => h) rfl (by exact hI0) (fun wx hx => ?_) ?_
    rotate_left
    · refine (exec_load (p := .pointer (some ⟨X, 0, none⟩)) rfl rfl (HLX.out _ hx.1)).trans ?_; with_reducible rfl
    try simp only [Act.put, List.setIfInBounds_toArray, List.set_cons_zero, List.set_cons_succ]
    refine runOne (i := 1) (by kernel_rfl) rfl rfl ?_
    go_simp
    refine (HAL.out q b.length cq w8.drew).mono ?_
    rintro e w9 ⟨p9, c9, rfl, hS9, hB9⟩
    have hBw9 := hBd8.trans (hB9.mono hBd8.size)
    have hS_9 := below_blk hB9 (show w8.drew.heap[S]? = _ from hS8)
    have hX9 := below_blk hB9 (show w8.drew.heap[X]? = _ from hX8)
    have hY9 := below_blk hB9 (show w8.drew.heap[Y]? = _ from hY8)
    refine ⟨⟨⟨hX9, hY9⟩, fun _ => trivial⟩, ?_⟩
    refine strongA (A' := fun w' => (w'.heap[X]? = some (.cells (pktC x (.slice p m.length cp)) 27 (0, 0)) ∧ w'.heap[Y]? = some (.cells (pktC x (.slice q b.length cq)) 27 (0, 0))) ∧ SL .u8 w' p9 L) (fun _ h => h.1) ?_
    have hI1 : S1 (fun w' => (w'.heap[X]? = some (.cells (pktC x (.slice p m.length cp)) 27 (0, 0)) ∧ w'.heap[Y]? = some (.cells (pktC x (.slice q b.length cq)) 27 (0, 0))) ∧ SL .u8 w' p9 L) (fun _ => True) [true] w9 := ⟨⟨⟨hX9, hY9⟩, hS9⟩, fun _ => trivial⟩
    try simp only [Act.put, List.setIfInBounds_toArray, List.set_cons_zero, List.set_cons_succ]
    refine takeA (i := 2) (v := ?_) rfl (by kernel_rfl) (fun _ _ _ h => h) rfl (by exact hI1) (fun wx hx => ?_) ?_
    rotate_left
    · refine (exec_conv (v := .slice p9 L.length c9) rfl rfl (run_str (P := Tryd.prog) (dst := 9) Tryd.underlying25 Tryd.underlying5 Tryd.underlying9 hx.2 _ _ rfl)).trans ?_; with_reducible rfl
    try simp only [Act.put, List.setIfInBounds_toArray, List.set_cons_zero, List.set_cons_succ]
    refine runOne (i := 4) (by kernel_rfl) rfl rfl ?_
    go_simp
    refine (HAL.out p m.length cp w9).mono ?_
    rintro e w10 ⟨p10, c10, rfl, hS10, hB10⟩
    have hBw10 := hBw9.trans (hB10.mono hBw9.size)
    have hS_10 := below_blk hB10 hS_9
    have hX10 := below_blk hB10 hX9
    have hY10 := below_blk hB10 hY9
    have hSb10 := hS9.below hB10
    refine ⟨⟨⟨⟨hX10, hY10⟩, hSb10⟩, fun _ => trivial⟩, ?_⟩
    refine strongA (A' := fun w' => ((w'.heap[X]? = some (.cells (pktC x (.slice p m.length cp)) 27 (0, 0)) ∧ w'.heap[Y]? = some (.cells (pktC x (.slice q b.length cq)) 27 (0, 0))) ∧ SL .u8 w' p9 L) ∧ SL .u8 w' p10 L) (fun _ h => h.1) ?_
    have hI2 : S1 (fun w' => ((w'.heap[X]? = some (.cells (pktC x (.slice p m.length cp)) 27 (0, 0)) ∧ w'.heap[Y]? = some (.cells (pktC x (.slice q b.length cq)) 27 (0, 0))) ∧ SL .u8 w' p9 L) ∧ SL .u8 w' p10 L) (fun _ => True) [true] w10 := ⟨⟨⟨⟨hX10, hY10⟩, hSb10⟩, hS10⟩, fun _ => trivial⟩
    try simp only [Act.put, List.setIfInBounds_toArray, List.set_cons_zero, List.set_cons_succ]
    refine takeA (i := 5) (v := ?_) rfl (by kernel_rfl) (fun _ _ _ h => h) rfl (by exact hI2) (fun wx hx => ?_) ?_
    rotate_left
    · refine (exec_conv (v := .slice p10 L.length c10) rfl rfl (run_str (P := Tryd.prog) (dst := 9) Tryd.underlying25 Tryd.underlying5 Tryd.underlying9 hx.2 _ _ rfl)).trans ?_; with_reducible rfl
    try simp only [Act.put, List.setIfInBounds_toArray, List.set_cons_zero, List.set_cons_succ]
    refine takeA (i := 6) (v := ?_) rfl (by kernel_rfl) (fun _ _ _ h => h) rfl (by exact hI2) (fun wx hx => ?_) ?_
    rotate_left
    · go_simp; try with_reducible rfl
    try simp only [Act.put, List.setIfInBounds_toArray, List.set_cons_zero, List.set_cons_succ]
    refine takeA (i := 7) (v := ?_) rfl (by kernel_rfl) (fun _ _ _ h => h) rfl (by exact hI2) (fun wx hx => ?_) ?_
    rotate_left
    · go_simp; try with_reducible rfl
    try simp only [Act.put, List.setIfInBounds_toArray, List.set_cons_zero, List.set_cons_succ]
    refine takeAg (i := 8) (v := ?_) rfl (by kernel_rfl) (fun _ _ _ h => h) rfl (by exact hI2) (fun wx hx => ?_) ?_
    rotate_left
    · go_simp; try with_reducible rfl
    try simp only [Act.put, List.setIfInBounds_toArray, List.set_cons_zero, List.set_cons_succ]
    refine takeAg (i := 9) (v := ?_) rfl (by kernel_rfl) (fun _ _ _ h => h) rfl (by exact hI2) (fun wx hx => ?_) ?_
    rotate_left
    · have hcx := HCK.out _ hx.1.1.1; go_simp; try with_reducible rfl
    try simp only [Act.put, List.setIfInBounds_toArray, List.set_cons_zero, List.set_cons_succ]
    refine takeAg (i := 10) (v := ?_) rfl (by kernel_rfl) (fun _ _ _ h => h) rfl (by exact hI2) (fun wx hx => ?_) ?_
    rotate_left
    · go_simp; try with_reducible rfl
    try simp only [Act.put, List.setIfInBounds_toArray, List.set_cons_zero, List.set_cons_succ]
    refine takeAg (i := 11) (v := ?_) rfl (by kernel_rfl) (fun _ _ _ h => h) rfl (by exact hI2) (fun wx hx => ?_) ?_
    rotate_left
    · go_simp; try with_reducible rfl
    try simp only [Act.put, List.setIfInBounds_toArray, List.set_cons_zero, List.set_cons_succ]
    refine takeAg (i := 12) (v := ?_) rfl (by kernel_rfl) (fun _ _ _ h => h) rfl (by exact hI2) (fun wx hx => ?_) ?_
    rotate_left
    · refine (exec_load (p := .pointer (some ⟨X, 0, none⟩)) rfl rfl (HLX.out _ hx.1.1.1)).trans ?_; with_reducible rfl
    try simp only [Act.put, List.setIfInBounds_toArray, List.set_cons_zero, List.set_cons_succ]
    refine runOneG (i := 13) (by kernel_rfl) rfl (by rfl) ?_
    go_simp
    refine (HAL.out p m.length cp w10).mono ?_
    rintro e w11 ⟨p11, c11, rfl, hS11, hB11⟩
    have hBw11 := hBw10.trans (hB11.mono hBw10.size)
    have hS_11 := below_blk hB11 hS_10
    have hX11 := below_blk hB11 hX10
    have hY11 := below_blk hB11 hY10
    have hI3 : S1 (fun w' => ((w'.heap[X]? = some (.cells (pktC x (.slice p m.length cp)) 27 (0, 0)) ∧ w'.heap[Y]? = some (.cells (pktC x (.slice q b.length cq)) 27 (0, 0))) ∧ SL .u8 w' p9 L) ∧ SL .u8 w' p10 L) (fun _ => True) [true] w11 := ⟨⟨⟨⟨hX11, hY11⟩, hSb10.below hB11⟩, hS10.below hB11⟩, fun _ => trivial⟩
    refine ⟨by exact hI3, ?_⟩
    try simp only [Act.put, List.setIfInBounds_toArray, List.set_cons_zero, List.set_cons_succ]
    refine takeAg (i := 14) (v := ?_) rfl (by kernel_rfl) (fun _ _ _ h => h) rfl (by exact hI3) (fun wx hx => ?_) ?_
    rotate_left
    · go_simp; try with_reducible rfl
    try simp only [Act.put, List.setIfInBounds_toArray, List.set_cons_zero, List.set_cons_succ]
    refine takeAg (i := 15) (v := ?_) rfl (by kernel_rfl) (fun _ _ _ h => h) rfl (by exact hI3) (fun wx hx => ?_) ?_
    rotate_left
    · go_simp; try with_reducible rfl
    try simp only [Act.put, List.setIfInBounds_toArray, List.set_cons_zero, List.set_cons_succ]
    refine takeAg (i := 16) (v := ?_) rfl (by kernel_rfl) (fun _ _ _ h => h) rfl (by exact hI3) (fun wx hx => ?_) ?_
    rotate_left
    · go_simp; try with_reducible rfl
    try simp only [Act.put, List.setIfInBounds_toArray, List.set_cons_zero, List.set_cons_succ]
    refine takeA (i := 17) (v := ?_) rfl (by kernel_rfl) (fun _ _ _ h => h) rfl (by exact hI3) (fun wx hx => ?_) ?_
    rotate_left
    · go_simp; try with_reducible rfl
    try simp only [Act.put, List.setIfInBounds_toArray, List.set_cons_zero, List.set_cons_succ]
    refine wpAnyE_done (by kernel_rfl) ?_ _
    have hq10 := hq.below hBw11
    clear hI0 hI1 hI2 hI3
    go_wp2_with (first | (refine ld_row rfl (ty := 31) rfl rfl hS_11 Tryd.underlying31 rfl (by kernel_rfl) (by rw [size_ints, hs]) ?_) | (go_at_call 8; fail))
    refine (pseal_any secret hs hsB way x.session x.epoch x.count hx.session hx.epoch hx.count b q cq w11 (hR.below hBw11 hRlt.out) (hC.below hBw11 hClt.out) hq10).mono ?_
    intro e w14 hP
    obtain ⟨hP, hB14⟩ := hP
    have hBw14 := (hBw11).trans (hB14.mono (hBw11).size)
    by_cases he0 : psealErr x.session x.epoch x.count b.length = 0
    · rw [if_pos he0] at hP
      obtain ⟨vb, rfl, hWr⟩ := hP
      obtain ⟨g, cg, rfl, _⟩ := hWr.sl
      rw [psealS_len]
      clear hX11 hY11 hX10 hY10 he0 hWr hX9 hY9 hX8 hY8 hS8 hB9 hBw9 hBd8 hBw8
      go_wp2_with (first | (refine al_abs rfl (T := 27) rfl (cs := pktC pkt0 (.slice none 0 0)) (by kernel_rfl) ?_; intro w15 Z hZ15 hB15 hzZ hzZ') | (refine st_row rfl (ty := 27) (cs := pktC (sealX x.session x.epoch x.count) (.slice (some ⟨g, 0, none⟩) (b.length + 16) cg)) rfl rfl rfl (by exact hZ15) (n := 38) (by kernel_rfl) (pktC_size _ _) (pktC_size _ _) (pktC_one _ _ rfl) ?_; have hZ16 := setRow_heap w15 Z _ (pktC (sealX x.session x.epoch x.count) (.slice (some ⟨g, 0, none⟩) (b.length + 16) cg)) _ _ hZ15; have hB16 := belowRow (hBw14.trans (hB15.mono hBw14.size)) (show w.heap.size ≤ Z by have := hBw14.size; omega) (pktC (sealX x.session x.epoch x.count) (.slice (some ⟨g, 0, none⟩) (b.length + 16) cg)); generalize w15.setRow Z (pktC (sealX x.session x.epoch x.count) (.slice (some ⟨g, 0, none⟩) (b.length + 16) cg)) = w16 at *; clear hZ15 hB15))
      go_ret
      exact ⟨rfl, hB16⟩
    · rw [if_neg he0] at hP
      subst hP
      obtain ⟨c, hc⟩ : ∃ c, c = psealErr x.session x.epoch x.count b.length := ⟨_, rfl⟩
      rw [← hc] at he0 ⊢
      have e2 : (c != 0) = true := bne_iff_ne.2 he0
      have e1 : (c == 0) = false := beq_eq_false_iff_ne.2 he0
      clear he0 hc hX9 hY9 hX8 hY8 hS8 hB9 hBw9 hBd8 hBw8
      go_wp2_with (first | (refine al_abs rfl (T := 27) rfl (cs := pktC pkt0 (.slice none 0 0)) (by kernel_rfl) ?_; intro w15 Z hZ15 hB15 hzZ hzZ') | (refine st_row rfl (ty := 27) (cs := pktC pkt0 (.slice none 0 0)) rfl rfl rfl (by exact hZ15) (n := 38) (by kernel_rfl) (pktC_size _ _) (pktC_size _ _) (pktC_one _ _ rfl) ?_; have hB16 := belowRow (hBw14.trans (hB15.mono hBw14.size)) (show w.heap.size ≤ Z by have := hBw14.size; omega) (pktC pkt0 (.slice none 0 0)); generalize w15.setRow Z (pktC pkt0 (.slice none 0 0)) = w16 at *; clear hZ15 hB15; go_wp2))
      go_ret
      exact ⟨rfl, hB16⟩
end Go.Proofs.YtjieiijbgbkikaaDoor
end
section
/- Opening arguments: arrays of numbers, slices of bytes, packets. -/
namespace Go.Proofs.YtjieiijbgbkikaaDoor
open Go Go.RowKit Go.ChangeShapes Go.WideShapes Go.ChangeAt
set_option maxRecDepth 100000
section
variable {H : Type} {enc : TypeId × Value → H} {P : Program}
/-- All arguments read behind the call as they did. -/
theorem below_trodAll (hl : laidOutB P = true) {W W' : World} (hb : Below W.heap.size W W') : ∀ (ts : List TypeId) (vs : List Value) (ds : List (DataW H)) (ps : List MemPlace),
    ts.all (fun t => P.readableRec t && decide (t < P.types.size)) = true → DataW.TrodAll enc P W 0 (fun _ => true) true ts vs ds ps → (∀ x ∈ ps, x.block < W.heap.size) → DataW.TrodAll enc P W' 0 (fun b => decide (b < W.heap.size)) true ts vs ds ps := by
  intro ts
  induction ts with
  | nil =>
    intro vs ds ps _ h _
    obtain ⟨rfl, rfl, rfl⟩ := trodAll_nil h
    simp [DataW.TrodAll]
  | cons t ts ih =>
    intro vs ds ps ht h hlt
    obtain ⟨v, vs', d, ds', p, q, rfl, rfl, rfl, hd, hr⟩ := trodAll_cons h
    simp only [List.all_cons, Bool.and_eq_true, decide_eq_true_eq] at ht
    exact trodAll_cons_mk (Below.trod hl ht.1.1 ht.1.2 hd hb (fun x hx => hlt x (by simp [hx]))) (ih vs' ds' q (by simpa using ht.2) hr (fun x hx => hlt x (by simp [hx])))
theorem noStand {ps : Array TypeId} (h : ps.all (fun t => !P.wantsStandIn t) = true) (j : Nat) (t : TypeId) (ht : ps[j]? = some t) : P.wantsStandIn t = false := by
  have := (Array.all_eq_true_iff_forall_mem.1 h) t (Array.mem_of_getElem? ht)
  simpa using this
theorem okWide_array {n : Nat} {e t : TypeId} {W : World} {r : Reach} {b0 : Nat} {v : Value} (ht : P.underlying t = some (.array n e)) (h : Value.okWide P W r b0 t v) : ∃ cs, v = .agg cs ∧ cs.size = P.cellsOf t := by
  simp only [Value.okWide, ht] at h
  obtain ⟨cs, h1, h2, _⟩ := h
  exact ⟨cs, h1, h2⟩
theorem bd_of_wf {l : List Int} (h : ∀ z ∈ l, (Lit.int .u8 z).wf = true) : Bd 256 l := Bd.of_mem (by decide) fun z hz => by have := bounds_u8 (h z hz); omega
/-- An array of numbers, opened, with what they are within. -/
theorem trod_ints_wf {w : World} {base fuel : Nat} {spare : Nat → Bool} {held : Bool} {t : TypeId} {cs : List Value} {x : DataW H × List MemPlace} {n : Nat} {e : TypeId} {k : IntKind} (ht : P.underlying t = some (.array n e)) (he : P.underlying e = some (.int k)) (hc : P.cellsOf e = 1) (hn : P.cellsOf t = n)
    (h : DataW.trod enc P w base spare held fuel t cs = some x) : ∃ l : List Int, l.length = n ∧ cs = l.map (Value.int k) ∧ ∀ z ∈ l, (Lit.int k z).wf = true := by
  obtain ⟨xs, m, _, hx, hl, hxs, hel⟩ := DataW.trod_array ht h
  rw [hc] at hel
  rw [hn] at hl
  have hone : ∀ i, i < n → ∃ z : Int, cs[i]? = some (.int k z) ∧ (Lit.int k z).wf = true := fun i hi => by
    have h1 := hel i hi
    rw [Nat.mul_one, List.getElem?_eq_getElem (show i < xs.length by omega)] at h1
    obtain ⟨z, e1, e2, e3⟩ := DataW.trod_int he h1
    refine ⟨z, ?_, e3⟩
    have h2 := congrArg (fun l : List Value => l[0]?) e1
    simpa [List.getElem?_take_of_lt] using h2
  refine ⟨cs.map zOf, by simpa using hl, ?_, ?_⟩
  · refine List.ext_getElem? fun i => ?_
    by_cases hi : i < n
    · obtain ⟨z, e1, _⟩ := hone i hi
      rw [List.getElem?_map, List.getElem?_map, e1]
      rfl
    · rw [List.getElem?_eq_none (by omega), List.getElem?_eq_none (by simp; omega)]
  · intro z hz
    obtain ⟨v, hv, rfl⟩ := List.mem_map.1 hz
    obtain ⟨i, hi, rfl⟩ := List.mem_iff_getElem.1 hv
    obtain ⟨z, e1, e2⟩ := hone i (by omega)
    rw [List.getElem?_eq_getElem hi] at e1
    rw [Option.some.inj e1]
    exact e2
/-- A slice of bytes, opened. -/
theorem trod_bytes {w : World} {fuel : Nat} {held : Bool} {t e : TypeId} {cs : List Value} {x : DataW H × List MemPlace} (ht : P.underlying t = some (.slice e)) (he : P.underlying e = some (.int .u8)) (hc : P.cellsOf e = 1)
    (h : DataW.trod enc P w 0 (fun _ => true) held fuel t cs = some x) : ∃ (p : Option Addr) (len cap : Nat) (m : List Int), cs = [.slice p len cap] ∧ len = m.length ∧ Bd 256 m ∧ SL .u8 w p m ∧ len ≤ cap := by
  rcases open_ints ht he hc h with ⟨rfl, _⟩ | ⟨a, len, cap, zs, rfl, _, hle, _, hz, _, hcell, hwf⟩
  · exact ⟨none, 0, 0, [], rfl, rfl, Bd.nil (by decide), SL.nil _ _ _, Nat.le_refl _⟩
  · simp only [if_true] at hz
    refine ⟨some a, len, cap, zs.take len, rfl, by simp; omega, bd_of_wf fun z hz' => hwf z (List.mem_of_mem_take hz'), ?_, hle⟩
    by_cases h0 : len = 0
    · subst h0; rw [List.take_zero]; exact SL.nil _ _ _
    · obtain ⟨b, off, rfl, hc'⟩ := ints_at hcell (by omega)
      refine .inr ⟨b, off, rfl, fun i hi => ?_⟩
      have hi' : i < len := by simp at hi; omega
      rw [hc' i (by omega), nth_take hi']
      rfl
theorem open_arr {W : World} {r : Reach} {b0 : Nat} {v : Value} {d : DataW H} {ps : List MemPlace} {t e : TypeId} {n : Nat} (ht : P.underlying t = some (.array n e)) (he : P.underlying e = some (.int .u8)) (hc : P.cellsOf e = 1) (hn : P.cellsOf t = n)
    (hv : Value.okWide P W r b0 t v) (hd : DataW.Trod enc P W 0 (fun _ => true) true t v d ps) : ∃ l : List Int, v = .agg (ints .u8 l) ∧ l.length = n ∧ Bd 256 l := by
  obtain ⟨cs, rfl, _⟩ := okWide_array ht hv
  obtain ⟨fuel, hf⟩ := hd
  obtain ⟨l, hl, hcs, hwf⟩ := trod_ints_wf ht he hc hn hf
  exact ⟨l, by congr 1; exact Array.ext' (by simpa [Value.cells, ints] using hcs), hl, bd_of_wf hwf⟩
theorem open_bytes {W : World} {r : Reach} {b0 : Nat} {v : Value} {d : DataW H} {ps : List MemPlace} {t e : TypeId} (ht : P.underlying t = some (.slice e)) (he : P.underlying e = some (.int .u8)) (hc : P.cellsOf e = 1)
    (hv : Value.okWide P W r b0 t v) (hd : DataW.Trod enc P W 0 (fun _ => true) true t v d ps) : ∃ (p : Option Addr) (m : List Int) (cap : Nat), v = .slice p m.length cap ∧ Bd 256 m ∧ SL .u8 W p m ∧ m.length ≤ cap := by
  obtain ⟨a, len, cap, rfl⟩ := okWide_slice ht hv
  obtain ⟨fuel, hf⟩ := hd
  obtain ⟨p, len', cap', m, hcs, rfl, hB, hS, hle⟩ := trod_bytes ht he hc hf
  simp only [Value.cells, List.cons.injEq, Value.slice.injEq, and_true] at hcs
  obtain ⟨rfl, rfl, rfl⟩ := hcs
  exact ⟨_, m, _, rfl, hB, hS, hle⟩
end
theorem pktC_list (k p s e c : Int) : ∀ (r m : List Int) (v : Value), r.length = 16 → m.length = 16 →
    (pktC ⟨k, p, s, e, c, r, m⟩ v).toList = [.int .i64 k, .int .i64 p, .int .u64 s, .int .u32 e, .int .u64 c] ++ (r.map (Value.int .u8) ++ (m.map (Value.int .u8) ++ [v]))
  | [r0, r1, r2, r3, r4, r5, r6, r7, r8, r9, r10, r11, r12, r13, r14, r15], [m0, m1, m2, m3, m4, m5, m6, m7, m8, m9, m10, m11, m12, m13, m14, m15], v, _, _ => by kernel_rfl
theorem take_eq {α : Type} {l a : List α} {off n : Nat} (h : (l.drop off).take n = a) : l.drop off = a ++ l.drop (off + n) := by
  rw [← h, ← List.drop_drop, List.take_append_drop]
def pktFields : List TypeId := [3, 3, 22, 23, 22, 24, 24, 25]
def pktOffs : List Nat := [0, 1, 2, 3, 4, 5, 21, 37]
theorem pktFs : ∃ fs : Array Field, Tryd.prog.underlying 27 = some (.struct fs) ∧ fs.toList.map (fun f => (f.type, f.offset)) = pktFields.zip pktOffs := ⟨_, Tryd.underlying27, by kernel_rfl⟩
section
variable {H : Type} {enc : TypeId × Value → H}
/-- A packet's cells, opened. -/
theorem trod_pkt {W : World} {fuel : Nat} {cs : List Value} {y : DataW H × List MemPlace} (h : DataW.trod enc Tryd.prog W 0 (fun _ => true) true fuel 27 cs = some y) :
    ∃ (x : Pkt) (p : Option Addr) (m : List Int) (cap : Nat), cs = (pktC x (.slice p m.length cap)).toList ∧ PktOk x ∧ (-9223372036854775808 ≤ x.kind ∧ x.kind < 9223372036854775808) ∧ (-9223372036854775808 ≤ x.peer ∧ x.peer < 9223372036854775808) ∧ Bd 256 m ∧ SL .u8 W p m ∧ m.length ≤ cap := by
  obtain ⟨fs, hu, hfs⟩ := pktFs
  obtain ⟨xs, n, _, _, hl, hxl, hf⟩ := DataW.trod_struct hu h
  have hsz : fs.size = 8 := by
    have := congrArg List.length hfs
    simpa [pktFields, pktOffs] using this
  rw [hsz] at hxl
  have hfield : ∀ (i : Nat) (t : TypeId) (o : Nat), (pktFields.zip pktOffs)[i]? = some (t, o) → i < 8 → ∃ y, DataW.trod enc Tryd.prog W 0 (fun _ => true) true n t ((cs.drop o).take (Tryd.prog.cellsOf t)) = some y := by
    intro i t o hi h8
    rw [← hfs, List.getElem?_map, Array.getElem?_toList] at hi
    obtain ⟨f, hfi, hto⟩ := Option.map_eq_some_iff.1 hi
    simp only [Prod.mk.injEq] at hto
    have h1 := hf i f hfi
    rw [hto.1, hto.2, List.getElem?_eq_getElem (by omega)] at h1
    exact ⟨_, h1⟩
  have c1 : Tryd.prog.cellsOf 3 = 1 := by kernel_rfl
  have c2 : Tryd.prog.cellsOf 22 = 1 := by kernel_rfl
  have c3 : Tryd.prog.cellsOf 23 = 1 := by kernel_rfl
  have c4 : Tryd.prog.cellsOf 24 = 16 := by kernel_rfl
  have c5 : Tryd.prog.cellsOf 25 = 1 := by kernel_rfl
  have c6 : Tryd.prog.cellsOf 27 = 38 := by kernel_rfl
  obtain ⟨y0, h0⟩ := hfield 0 _ _ rfl (by decide)
  obtain ⟨y1, h1⟩ := hfield 1 _ _ rfl (by decide)
  obtain ⟨y2, h2⟩ := hfield 2 _ _ rfl (by decide)
  obtain ⟨y3, h3⟩ := hfield 3 _ _ rfl (by decide)
  obtain ⟨y4, h4⟩ := hfield 4 _ _ rfl (by decide)
  obtain ⟨y5, h5⟩ := hfield 5 _ _ rfl (by decide)
  obtain ⟨y6, h6⟩ := hfield 6 _ _ rfl (by decide)
  obtain ⟨y7, h7⟩ := hfield 7 _ _ rfl (by decide)
  rw [c1] at h0 h1
  rw [c2] at h2 h4
  rw [c3] at h3
  rw [c4] at h5 h6
  rw [c5] at h7
  rw [c6] at hl
  obtain ⟨k, e0, _, w0⟩ := DataW.trod_int Tryd.underlying3 h0
  obtain ⟨pe, e1, _, w1⟩ := DataW.trod_int Tryd.underlying3 h1
  obtain ⟨s, e2, _, w2⟩ := DataW.trod_int Tryd.underlying22 h2
  obtain ⟨ep, e3, _, w3⟩ := DataW.trod_int Tryd.underlying23 h3
  obtain ⟨c, e4, _, w4⟩ := DataW.trod_int Tryd.underlying22 h4
  obtain ⟨r, r1, e5, r2⟩ := trod_ints_wf Tryd.underlying24 Tryd.underlying5 (by kernel_rfl) c4 h5
  obtain ⟨q, q1, e6, q2⟩ := trod_ints_wf Tryd.underlying24 Tryd.underlying5 (by kernel_rfl) c4 h6
  obtain ⟨p, len, cap, m, e7, rfl, hB, hS, hle⟩ := trod_bytes Tryd.underlying25 Tryd.underlying5 (by kernel_rfl) h7
  have b0 := bounds_i64 w0
  have b1 := bounds_i64 w1
  have b2 := bounds_u64 w2
  have b3 := bounds_u32 w3
  have b4 := bounds_u64 w4
  refine ⟨⟨k, pe, s, ep, c, r, q⟩, p, m, cap, ?_, ⟨⟨b2.1, by show s < _; omega⟩, ⟨b3.1, by show ep < _; omega⟩, ⟨b4.1, by show c < _; omega⟩, r1, q1, bd_of_wf r2, bd_of_wf q2⟩, ⟨b0.1, by show k < _; omega⟩, ⟨b1.1, by show pe < _; omega⟩, hB, hS, hle⟩
  rw [pktC_list _ _ _ _ _ _ _ _ r1 q1]
  have t0 := take_eq e0
  have t1 := take_eq e1
  have t2 := take_eq e2
  have t3 := take_eq e3
  have t4 := take_eq e4
  have t5 := take_eq e5
  have t6 := take_eq e6
  have t7 := take_eq e7
  have t8 : cs.drop (37 + 1) = [] := List.drop_eq_nil_of_le (by omega)
  rw [t8] at t7
  rw [List.drop_zero] at t0
  rw [t0, t1, t2, t3, t4, t5, t6, t7]
  simp
theorem open_pkt {W : World} {r : Reach} {b0 : Nat} {v : Value} {d : DataW H} {ps : List MemPlace} (hv : Value.okWide Tryd.prog W r b0 27 v) (hd : DataW.Trod enc Tryd.prog W 0 (fun _ => true) true 27 v d ps) :
    ∃ (x : Pkt) (p : Option Addr) (m : List Int) (cap : Nat), v = .agg (pktC x (.slice p m.length cap)) ∧ PktOk x ∧ (-9223372036854775808 ≤ x.kind ∧ x.kind < 9223372036854775808) ∧ (-9223372036854775808 ≤ x.peer ∧ x.peer < 9223372036854775808) ∧ Bd 256 m ∧ SL .u8 W p m ∧ m.length ≤ cap := by
  obtain ⟨fs, hu, _⟩ := pktFs
  obtain ⟨cs, rfl, _⟩ := okWide_struct hu hv
  obtain ⟨fuel, hf⟩ := hd
  obtain ⟨x, p, m, cap, hcs, r⟩ := trod_pkt hf
  exact ⟨x, p, m, cap, by congr 1; exact Array.ext' (by simpa [Value.cells] using hcs), r⟩
end
end Go.Proofs.YtjieiijbgbkikaaDoor
end
section
/- Law 9: PacketWays, the row and the card. -/
namespace Go.Proofs.YtjieiijbgbkikaaDoor
open Go Go.RowKit Go.ChangeShapes Go.WideShapes Go.ChangeAt
set_option maxRecDepth 100000
theorem lifted_packetWays (os : Os) (started : os.Started) (H : Type) (enc : TypeId × Value → H) :
    ReturnsInHanded {} Tryd.checked os 4 .any (fun w args => (Rows.packetWaysSpec.pre enc Tryd.prog Tryd.f4 [] false w args ∧ laidMetH Tryd.prog laid2 w) ∧ sizedMet enc Tryd.prog Tryd.f4 (OpenSpec.ofChange Rows.packetWaysSpec) false w args)
      (Rows.packetWaysSpec.post enc Tryd.prog Tryd.f4 false true false false) := by
  refine returnsInHanded_of_change_and (C := Tryd.checked) (X := fun w _ => laidMetH Tryd.prog laid2 w) (fun _ _ _ hh h => h.of_heap hh) own started (by kernel_rfl) Tryd.func4
    (ChangeSpec.witness_shaped (enc := enc) (C := Tryd.checked) (os := os) (X := fun w _ => laidMetH Tryd.prog laid2 w) false (World.doorLaid Tryd.prog 400 os) #[.agg (ints .u8 (List.replicate 32 0)), .int .i64 0, .int .u32 0, .agg (pktC pkt0 (.slice none 0 0)), .slice none 0 0] 8 rfl (World.shaped_of_RefB (by kernel_rfl) (by kernel_rfl)) (by kernel_rfl) (by kernel_rfl) (by kernel_rfl) (door_met os _)) ?_
  intro W base args ds gs before hval0 hW _ hwt hL _
  have hW' := hW
  obtain ⟨p, q, hA0, hV, rfl, hfz, hnd⟩ := hW
  have hA : DataW.TrodAll enc Tryd.prog W 0 (fun _ => true) true Tryd.f4.params.toList args.toList ds p := hA0
  rw [Tryd.params4] at hA
  obtain ⟨rfl, rfl⟩ := trodVars_none hV
  obtain ⟨v0, vs0, d0, ds0, p0, q0, hargs, hds, hps, hj0, hr0⟩ := trodAll_cons hA
  obtain ⟨v1, vs1, d1, ds1, p1, q1, rfl, rfl, rfl, hj1, hr1⟩ := trodAll_cons hr0
  obtain ⟨v2, vs2, d2, ds2, p2, q2, rfl, rfl, rfl, hj2, hr2⟩ := trodAll_cons hr1
  obtain ⟨v3, vs3, d3, ds3, p3, q3, rfl, rfl, rfl, hj3, hr3⟩ := trodAll_cons hr2
  obtain ⟨v4, vs4, d4, ds4, p4, q4, rfl, rfl, rfl, hj4, hr4⟩ := trodAll_cons hr3
  obtain ⟨rfl, rfl, rfl⟩ := trodAll_nil hr4
  obtain rfl : args = #[v0, v1, v2, v3, v4] := Array.ext' hargs
  subst hds
  have hval := fun (j : Nat) (t : TypeId) (v : Value) (h1 : (#[31, 3, 23, 27, 25] : Array TypeId)[j]? = some t) (h2 : (#[v0, v1, v2, v3, v4] : Array Value)[j]? = some v) => hval0 j t v (by rw [Tryd.params4]; exact h1) h2
  obtain ⟨hR, hC⟩ := of_laid hL
  obtain ⟨sec, rfl, sec_l, sec_B⟩ := open_arr (n := 32) Tryd.underlying31 Tryd.underlying5 (by kernel_rfl) (by kernel_rfl) (hval 0 _ _ rfl rfl) hj0
  obtain ⟨way, rfl, _, _, wf_way⟩ := open_int Tryd.underlying3 (hval 1 _ _ rfl rfl) hj1
  have bd_way := bounds_i64 wf_way
  obtain ⟨ep, rfl, _, _, wf_ep⟩ := open_int Tryd.underlying23 (hval 2 _ _ rfl rfl) hj2
  have bd_ep := bounds_u32 wf_ep
  obtain ⟨x, x_p, x_m, x_c, rfl, x_ok, x_k, x_pe, x_B, x_S, x_le⟩ := open_pkt (hval 3 _ _ rfl rfl) hj3
  obtain ⟨b_p, b, b_c, rfl, b_B, b_S, b_le⟩ := open_bytes Tryd.underlying25 Tryd.underlying5 (by kernel_rfl) (hval 4 _ _ rfl rfl) hj4
  have hlt : ∀ x ∈ p, x.block < W.heap.size := fun x hx => by simpa using hW'.lt x (by simp [hx])
  refine (ways9_any sec sec_l sec_B way ⟨by omega, by omega⟩ ep ⟨by omega, by omega⟩ x x_ok x_m x_p x_c b b_p b_c W hR hC x_S b_S).mono fun e W' ⟨he, hB⟩ => ?_
  subst he
  refine ⟨_, rfl, [d0, d1, d2, d3, d4], [], p ++ [], [], p, [], hW', ?_, ?_, ?_, hB.frame _, fun h => by cases h⟩
  · exact trodAll_mk1 (shut_bool Tryd.underlying4 _)
  · exact below_trodAll (by kernel_rfl) hB _ _ _ _ (by kernel_rfl) hA0 hlt
  · exact hV
theorem packetWays_holds : Rows.PacketWaysSaid :=
  OpenClaim.holds_of_wide 4 Tryd.f4 rfl rfl rfl rfl rfl rfl rfl ⟨rfl, rfl, rfl, rfl, rfl⟩ rfl rfl rfl rfl rfl (by kernel_rfl) Tryd.func4 (by kernel_rfl)
    (of_decide_eq_true (by kernel_rfl)) (by unfold Func.isWrapper; first | (rw [if_pos (by decide +kernel)]; kernel_rfl) | (rw [if_neg (by decide +kernel)]; exact ⟨rfl, rfl⟩))
    (fun os started H enc _ => lifted_packetWays os started H enc)
theorem packetWays_card_holds : Rows.PacketWaysCardSaid :=
  Claim7.holds_tied_plain_at .later [] [.data, .data] true (true, "e49d9dadfad7a1d54a3a799f28c2b472b127b6977e7d1f71cd2397dfd9d93cdf") false
    packetWays_holds (fun _ h => by cases h) (by kernel_rfl) (fun _ h => by cases h) packetWays_row_tie rfl ⟨rfl, rfl⟩ (by kernel_rfl) rfl
    (fun f fn hf hfn => by
      obtain rfl : f = 4 := Option.some.inj ((show Tryd.prog.funcNamed "drawbridge/drawbridgelaw09.PacketWays" = some 4 by kernel_rfl).symm.trans hf) |>.symm
      obtain rfl : fn = Tryd.f4 := (Option.some.inj (Tryd.func4.symm.trans hfn)).symm
      exact ⟨by kernel_rfl, noStand (by rw [Tryd.params4]; kernel_rfl)⟩)
    (by kernel_rfl)
#print axioms packetWays_card_holds
end Go.Proofs.YtjieiijbgbkikaaDoor
end
