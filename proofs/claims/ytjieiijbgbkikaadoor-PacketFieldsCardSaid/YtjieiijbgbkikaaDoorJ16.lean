/- Lemmas of a proof over the given program, joined by wip/join.py: KL9F. -/
import Derived.Test.YtjieiijbgbkikaaDoorJ14
import Derived.Test.YtjieiijbgbkikaaDoorJ15
set_option linter.unusedSimpArgs false
set_option linter.unusedVariables false
section
/- Law 9: PacketFields, the walk. -/
namespace Go.Proofs.YtjieiijbgbkikaaDoor
open Go Go.RowKit
set_option maxRecDepth 100000
attribute [local go_sem] cell?_eq frozen?_eq heap_setCell_eq heap_setCell_ne
set_option maxHeartbeats 16000000 in
theorem fields9_any (x : Pkt) (hx : PktOk x) (m : List Int) (p : Option Addr) (cp : Nat) (y : Pkt) (hy : PktOk y) (n : List Int) (q : Option Addr) (cq : Nat) (w : World) (hR : Rnd w) (hC : Cols w) :
    Calls Tryd.prog 5 #[.agg (pktC x (.slice p m.length cp)), .agg (pktC y (.slice q n.length cq))] w fun e w' => e = .returned (.bool true) ∧ Below w.heap.size w w' := by
  have hRlt := Lib.hid hR.lt
  have hClt := Lib.hid hC.lt
  go_enter Tryd.func5, Tryd.ntmps5
  go_wp2_with (first | (have hh := hX0; clear hh; refine bx_abs rfl (ty := 27) rfl rfl ?_; intro W Y hY0 hBY hzY hzY') | (refine bx_abs rfl (ty := 27) rfl rfl ?_; intro W0 X hX0 hBX hzX hzX') | (go_at_call 9; fail))
  have hX1 := below_blk hBY hX0
  have hB1 := hBX.trans (hBY.mono hBX.size)
  have hXY : X ≠ Y := fun e => by have := hzX'.out; omega
  have HXY := Lib.hid hXY
  clear hX0 hBY hBX hXY
  refine (lives9_any W (hR.below hB1 hRlt.out) (hC.below hB1 hClt.out)).mono ?_
  rintro e w2 ⟨rfl, hB2⟩
  have hX2 := below_blk hB2 hX1
  have hY2 := below_blk hB2 hY0
  have hBw2 := hB1.trans (hB2.mono hB1.size)
  clear hX1 hY0 hB2 hB1
  by_cases hm : 300 < m.length
  · have i1 : (300 : Int) < (m.length : Int) := by omega
    go_wp2
    go_ret
    exact ⟨rfl, hBw2⟩
  have i1 : decide ((300 : Int) < (m.length : Int)) = false := by simp; omega
  by_cases hn : 300 < n.length
  · have i2 : (300 : Int) < (n.length : Int) := by omega
    go_wp2
    go_ret
    exact ⟨rfl, hBw2⟩
  have i2 : decide ((300 : Int) < (n.length : Int)) = false := by simp; omega
  have hldX : ∀ wx : World, wx.heap[X]? = some (.cells (pktC x (.slice p m.length cp)) 27 (0, 0)) → (Instr.loadAt 27 (.pointer (some ⟨X, 0, none⟩))).run Tryd.prog wx = .ok (.agg (pktC x (.slice p m.length cp))) wx := fun wx hq => run_loadAt_row (P := Tryd.prog) (ty := 27) hq Tryd.underlying27 rfl (by kernel_rfl) (pktC_size _ _)
  have hldY : ∀ wx : World, wx.heap[Y]? = some (.cells (pktC y (.slice q n.length cq)) 27 (0, 0)) → (Instr.loadAt 27 (.pointer (some ⟨Y, 0, none⟩))).run Tryd.prog wx = .ok (.agg (pktC y (.slice q n.length cq))) wx := fun wx hq => run_loadAt_row (P := Tryd.prog) (ty := 27) hq Tryd.underlying27 rfl (by kernel_rfl) (pktC_size _ _)
  have HLX := Lib.hid hldX
  have HLY := Lib.hid hldY
  have hlx2 := Lib.hid (hldX _ hX2)
  clear hldX hldY
  go_wp2_with (first | (refine ld_g rfl (ty := 27) rfl (p := .pointer (some ⟨X, 0, none⟩)) rfl hlx2.out ?_) | (go_at_call 11; fail))
  refine (check_any x hx p m.length cp (by omega) w2).mono ?_
  rintro e w3 ⟨rfl, hB3⟩
  have hX3 := below_blk hB3 hX2
  have hY3 := below_blk hB3 hY2
  have hBw3 := hBw2.trans (hB3.mono hBw2.size)
  have hly3 := Lib.hid (HLY.out _ hY3)
  clear hX2 hY2 hB3 hBw2 hlx2
  by_cases hcx : checkS x m.length = 0
  rotate_left
  · obtain ⟨c, hc⟩ : ∃ c, c = checkS x m.length := ⟨_, rfl⟩
    rw [← hc] at hcx ⊢
    have e2 : (c != 0) = true := bne_iff_ne.2 hcx
    have e1 : (c == 0) = false := beq_eq_false_iff_ne.2 hcx
    clear hcx hc
    go_wp2
    go_ret
    exact ⟨rfl, hBw3⟩
  rw [hcx]
  have HCX := Lib.hid hcx
  clear hcx
  go_wp2_with (first | (refine ld_g rfl (ty := 27) rfl (p := .pointer (some ⟨Y, 0, none⟩)) rfl hly3.out ?_) | (go_at_call 11; fail))
  refine (check_any y hy q n.length cq (by omega) w3).mono ?_
  rintro e w4 ⟨rfl, hB4⟩
  have hX4 := below_blk hB4 hX3
  have hY4 := below_blk hB4 hY3
  have hBw4 := hBw3.trans (hB4.mono hBw3.size)
  clear hX3 hY3 hB4 hBw3 hly3
  by_cases hcy : checkS y n.length = 0
  rotate_left
  · obtain ⟨c, hc⟩ : ∃ c, c = checkS y n.length := ⟨_, rfl⟩
    rw [← hc] at hcy ⊢
    have e2 : (c != 0) = true := bne_iff_ne.2 hcy
    have e1 : (c == 0) = false := beq_eq_false_iff_ne.2 hcy
    clear hcy hc
    go_wp2
    go_ret
    exact ⟨rfl, hBw4⟩
  rw [hcy]
  have HCY := Lib.hid hcy
  clear hcy
  go_wp2
  refine wp_region_E [8] (S1 (fun w' => w'.heap[X]? = some (.cells (pktC x (.slice p m.length cp)) 27 (0, 0)) ∧ w'.heap[Y]? = some (.cells (pktC y (.slice q n.length cq)) 27 (0, 0))) (fun _ => True)) (by kernel_rfl) ?_
  have hI0 : S1 (fun w' => w'.heap[X]? = some (.cells (pktC x (.slice p m.length cp)) 27 (0, 0)) ∧ w'.heap[Y]? = some (.cells (pktC y (.slice q n.length cq)) 27 (0, 0))) (fun _ => True) [false] w4.drew := ⟨⟨hX4, hY4⟩, fun _ => trivial⟩
  have hBd4 : Below w.heap.size w w4.drew := hBw4.drew
  try simp only [Act.put, List.setIfInBounds_toArray, List.set_cons_zero, List.set_cons_succ]
  refine takeA (i := 0) (v := ?_) rfl (by kernel_rfl) (fun _ _ _ h => h) rfl (by exact hI0) (fun wx hx => ?_) ?_
  rotate_left
  · refine (exec_load (p := .pointer (some ⟨X, 0, none⟩)) rfl rfl (HLX.out _ hx.1)).trans ?_; with_reducible rfl
  try simp only [Act.put, List.setIfInBounds_toArray, List.set_cons_zero, List.set_cons_succ]
  refine takeA (i := 1) (v := ?_) rfl (by kernel_rfl) (fun _ _ _ h => h) rfl (by exact hI0) (fun wx hx => ?_) ?_
  rotate_left
  · refine (exec_load (p := .pointer (some ⟨X, 0, none⟩)) rfl rfl (HLX.out _ hx.1)).trans ?_; with_reducible rfl
  try simp only [Act.put, List.setIfInBounds_toArray, List.set_cons_zero, List.set_cons_succ]
  refine takeA (i := 2) (v := ?_) rfl (by kernel_rfl) (fun _ _ _ h => h) rfl (by exact hI0) (fun wx hx => ?_) ?_
  rotate_left
  · refine (exec_load (p := .pointer (some ⟨X, 0, none⟩)) rfl rfl (HLX.out _ hx.1)).trans ?_; with_reducible rfl
  try simp only [Act.put, List.setIfInBounds_toArray, List.set_cons_zero, List.set_cons_succ]
  refine takeA (i := 3) (v := ?_) rfl (by kernel_rfl) (fun _ _ _ h => h) rfl (by exact hI0) (fun wx hx => ?_) ?_
  rotate_left
  · refine (exec_load (p := .pointer (some ⟨X, 0, none⟩)) rfl rfl (HLX.out _ hx.1)).trans ?_; with_reducible rfl
  try simp only [Act.put, List.setIfInBounds_toArray, List.set_cons_zero, List.set_cons_succ]
  refine allocs_any (e := 8) (A := (fun w' => w'.heap[X]? = some (.cells (pktC x (.slice p m.length cp)) 27 (0, 0)) ∧ w'.heap[Y]? = some (.cells (pktC y (.slice q n.length cq)) 27 (0, 0))) ) (B := fun _ => True) (T := 27) (cs := pktC pkt0 (.slice none 0 0)) (by kernel_rfl) (fun i => i + 1) (fun w o h => ⟨(heap_alloc_past w o X (Array.getElem?_eq_some_iff.1 h.1).1).trans h.1, (heap_alloc_past w o Y (Array.getElem?_eq_some_iff.1 h.2).1).trans h.2⟩) (fun _ _ h => h) _ 4 [4, 5, 6, 7] _ _ _ (by kernel_rfl) (by decide) (by decide)
    (by intro i hi; simp only [List.mem_cons, List.not_mem_nil, or_false] at hi; rcases hi with rfl | rfl | rfl | rfl <;> exact ⟨_, rfl, rfl, rfl, rfl⟩) (by intro i _ j _ h; show j + 1 ≠ i + 1; omega) (by exact hI0) ?_
  intro f w5 hf hdis hB5 hS5
  have hX5 := (show S1 (fun w' => w'.heap[X]? = some (.cells (pktC x (.slice p m.length cp)) 27 (0, 0)) ∧ w'.heap[Y]? = some (.cells (pktC y (.slice q n.length cq)) 27 (0, 0))) (fun _ => True) [false] w5 from hS5).1.1
  have hY5 := (show S1 (fun w' => w'.heap[X]? = some (.cells (pktC x (.slice p m.length cp)) 27 (0, 0)) ∧ w'.heap[Y]? = some (.cells (pktC y (.slice q n.length cq)) 27 (0, 0))) (fun _ => True) [false] w5 from hS5).1.2
  have hB5' := hBd4.trans (hB5.mono hBd4.size)
  obtain ⟨A, hA⟩ : ∃ A, A = f 4 := ⟨_, rfl⟩
  obtain ⟨B, hB⟩ : ∃ B, B = f 5 := ⟨_, rfl⟩
  obtain ⟨C, hCC⟩ : ∃ C, C = f 6 := ⟨_, rfl⟩
  obtain ⟨D, hD⟩ : ∃ D, D = f 7 := ⟨_, rfl⟩
  have hA4 := hf 4 (by decide)
  have hB4 := hf 5 (by decide)
  have hC4 := hf 6 (by decide)
  have hD4 := hf 7 (by decide)
  have hAB := hdis 4 (by decide) 5 (by decide) (by decide)
  have hAC := hdis 4 (by decide) 6 (by decide) (by decide)
  have hAD := hdis 4 (by decide) 7 (by decide) (by decide)
  have hBC := hdis 5 (by decide) 6 (by decide) (by decide)
  have hBD := hdis 5 (by decide) 7 (by decide) (by decide)
  have hCD := hdis 6 (by decide) 7 (by decide) (by decide)
  simp only [setAll, putAll, List.foldl_cons, List.foldl_nil, Act.put, List.setIfInBounds_toArray, List.set_cons_zero, List.set_cons_succ, Nat.reduceAdd]
  rw [← hA] at hA4 hAB hAC hAD ⊢
  rw [← hB] at hB4 hAB hBC hBD ⊢
  rw [← hCC] at hC4 hAC hBC hCD ⊢
  rw [← hD] at hD4 hAD hBD hCD ⊢
  obtain ⟨hgeA, hA_5⟩ := hA4
  obtain ⟨hgeB, hB_5⟩ := hB4
  obtain ⟨hgeC, hC_5⟩ := hC4
  obtain ⟨hgeD, hD_5⟩ := hD4
  clear hA hB hCC hD hf hdis hS5
  have hX4lt := (Array.getElem?_eq_some_iff.1 hX4).1
  have hY4lt := (Array.getElem?_eq_some_iff.1 hY4).1
  have hneAX : X ≠ A := fun e => by subst e; exact absurd hgeA (Nat.not_le.2 hX4lt)
  have hneAY : Y ≠ A := fun e => by subst e; exact absurd hgeA (Nat.not_le.2 hY4lt)
  have hneBX : X ≠ B := fun e => by subst e; exact absurd hgeB (Nat.not_le.2 hX4lt)
  have hneBY : Y ≠ B := fun e => by subst e; exact absurd hgeB (Nat.not_le.2 hY4lt)
  have hneCX : X ≠ C := fun e => by subst e; exact absurd hgeC (Nat.not_le.2 hX4lt)
  have hneCY : Y ≠ C := fun e => by subst e; exact absurd hgeC (Nat.not_le.2 hY4lt)
  have hneDX : X ≠ D := fun e => by subst e; exact absurd hgeD (Nat.not_le.2 hX4lt)
  have hneDY : Y ≠ D := fun e => by subst e; exact absurd hgeD (Nat.not_le.2 hY4lt)
  have hgeA : w.heap.size ≤ A := Nat.le_trans hBd4.size hgeA
  have hgeB : w.heap.size ≤ B := Nat.le_trans hBd4.size hgeB
  have hgeC : w.heap.size ≤ C := Nat.le_trans hBd4.size hgeC
  have hgeD : w.heap.size ≤ D := Nat.le_trans hBd4.size hgeD
  clear hX4lt hY4lt hB5 hBw4 hX4 hY4 hBd4
  have hI0' : S1 (fun w' => w'.heap[X]? = some (.cells (pktC x (.slice p m.length cp)) 27 (0, 0)) ∧ w'.heap[Y]? = some (.cells (pktC y (.slice q n.length cq)) 27 (0, 0))) (fun _ => True) [false] w5 := ⟨⟨hX5, hY5⟩, fun _ => trivial⟩
  refine runOne (i := 8) (by kernel_rfl) rfl rfl ?_
  refine wp_st_row (ty := 27) (new := pktC x (.slice p m.length cp)) rfl rfl rfl (by exact hA_5) (n := 38) (by kernel_rfl) (pktC_size _ _) (pktC_size _ _) (pktC_one _ _ rfl) ?_
  intro w6 hA_6 hk6
  have hX6 := hk6.heap hX5 hneAX
  have hY6 := hk6.heap hY5 hneAY
  have hB_6 := hk6.heap hB_5 hAB
  have hC_6 := hk6.heap hC_5 hAC
  have hD_6 := hk6.heap hD_5 hAD
  have hB6 := hk6.below hB5' hB5'.size (fun k e => by subst e; exact hgeA)
  have hI6 : S1 (fun w' => w'.heap[X]? = some (.cells (pktC x (.slice p m.length cp)) 27 (0, 0)) ∧ w'.heap[Y]? = some (.cells (pktC y (.slice q n.length cq)) 27 (0, 0))) (fun _ => True) [true] w6 := ⟨⟨hX6, hY6⟩, fun _ => trivial⟩
  refine ⟨by exact hI6, ?_⟩
  clear hk6 hX5 hY5 hA_5 hB_5 hC_5 hD_5
  try simp only [Act.put, List.setIfInBounds_toArray, List.set_cons_zero, List.set_cons_succ]
  refine runOne (i := 9) (by kernel_rfl) rfl rfl ?_
  refine wp_st_row (ty := 27) (new := pktC x (.slice p m.length cp)) rfl rfl rfl (by exact hB_6) (n := 38) (by kernel_rfl) (pktC_size _ _) (pktC_size _ _) (pktC_one _ _ rfl) ?_
  intro w7 hB_7 hk7
  have hX7 := hk7.heap hX6 hneBX
  have hY7 := hk7.heap hY6 hneBY
  have hA_7 := hk7.heap hA_6 (fun e => hAB e.symm)
  have hC_7 := hk7.heap hC_6 hBC
  have hD_7 := hk7.heap hD_6 hBD
  have hB7 := hk7.below hB6 hB6.size (fun k e => by subst e; exact hgeB)
  have hI7 : S1 (fun w' => w'.heap[X]? = some (.cells (pktC x (.slice p m.length cp)) 27 (0, 0)) ∧ w'.heap[Y]? = some (.cells (pktC y (.slice q n.length cq)) 27 (0, 0))) (fun _ => True) [true] w7 := ⟨⟨hX7, hY7⟩, fun _ => trivial⟩
  refine ⟨by exact hI7, ?_⟩
  clear hk7 hX6 hY6 hA_6 hB_6 hC_6 hD_6
  try simp only [Act.put, List.setIfInBounds_toArray, List.set_cons_zero, List.set_cons_succ]
  refine runOne (i := 10) (by kernel_rfl) rfl rfl ?_
  refine wp_st_row (ty := 27) (new := pktC x (.slice p m.length cp)) rfl rfl rfl (by exact hC_7) (n := 38) (by kernel_rfl) (pktC_size _ _) (pktC_size _ _) (pktC_one _ _ rfl) ?_
  intro w8 hC_8 hk8
  have hX8 := hk8.heap hX7 hneCX
  have hY8 := hk8.heap hY7 hneCY
  have hA_8 := hk8.heap hA_7 (fun e => hAC e.symm)
  have hB_8 := hk8.heap hB_7 (fun e => hBC e.symm)
  have hD_8 := hk8.heap hD_7 hCD
  have hB8 := hk8.below hB7 hB7.size (fun k e => by subst e; exact hgeC)
  have hI8 : S1 (fun w' => w'.heap[X]? = some (.cells (pktC x (.slice p m.length cp)) 27 (0, 0)) ∧ w'.heap[Y]? = some (.cells (pktC y (.slice q n.length cq)) 27 (0, 0))) (fun _ => True) [true] w8 := ⟨⟨hX8, hY8⟩, fun _ => trivial⟩
  refine ⟨by exact hI8, ?_⟩
  clear hk8 hX7 hY7 hA_7 hB_7 hC_7 hD_7
  try simp only [Act.put, List.setIfInBounds_toArray, List.set_cons_zero, List.set_cons_succ]
  refine runOne (i := 11) (by kernel_rfl) rfl rfl ?_
  refine wp_st_row (ty := 27) (new := pktC x (.slice p m.length cp)) rfl rfl rfl (by exact hD_8) (n := 38) (by kernel_rfl) (pktC_size _ _) (pktC_size _ _) (pktC_one _ _ rfl) ?_
  intro w9 hD_9 hk9
  have hX9 := hk9.heap hX8 hneDX
  have hY9 := hk9.heap hY8 hneDY
  have hA_9 := hk9.heap hA_8 (fun e => hAD e.symm)
  have hB_9 := hk9.heap hB_8 (fun e => hBD e.symm)
  have hC_9 := hk9.heap hC_8 (fun e => hCD e.symm)
  have hB9 := hk9.below hB8 hB8.size (fun k e => by subst e; exact hgeD)
  have hI9 : S1 (fun w' => w'.heap[X]? = some (.cells (pktC x (.slice p m.length cp)) 27 (0, 0)) ∧ w'.heap[Y]? = some (.cells (pktC y (.slice q n.length cq)) 27 (0, 0))) (fun _ => True) [true] w9 := ⟨⟨hX9, hY9⟩, fun _ => trivial⟩
  refine ⟨by exact hI9, ?_⟩
  clear hk9 hX8 hY8 hA_8 hB_8 hC_8 hD_8
  try simp only [Act.put, List.setIfInBounds_toArray, List.set_cons_zero, List.set_cons_succ]
  refine wpAnyE_done (by kernel_rfl) ?_ _
  clear hI6 hI7 hI8 hI9 hI0' hI0 hB6 hB7 hB8 hB5'
  go_wp2
  refine wp_region_via [9] (S1 (fun _ => True) (fun _ => True)) (fun a a' w' => ∃ Z, a' = (((((a.put (some 38) (.agg (ints .u8 one16))).put (some 39) (.slice (some ⟨Z, 0, none⟩) 16 16)).put (some 40) (.pointer (some ⟨A, 1, none⟩))).put (some 41) (.pointer (some ⟨B, 4, none⟩))).put (some 42) (.pointer (some ⟨C, 5, none⟩))).put (some 43) (.pointer (some ⟨D, 37, none⟩)) ∧ w'.heap[X]? = some (.cells (pktC x (.slice p m.length cp)) 27 (0, 0)) ∧ w'.heap[Y]? = some (.cells (pktC y (.slice q n.length cq)) 27 (0, 0)) ∧ w'.heap[A]? = some (.cells (pktC { x with peer := 1 } (.slice p m.length cp)) 27 (0, 0)) ∧ w'.heap[B]? = some (.cells (pktC { x with count := 1 } (.slice p m.length cp)) 27 (0, 0)) ∧ w'.heap[C]? = some (.cells (pktC { x with random := one16 } (.slice p m.length cp)) 27 (0, 0)) ∧ w'.heap[D]? = some (.cells (pktC x (.slice (some ⟨Z, 0, none⟩) 16 16)) 27 (0, 0)) ∧ Below w.heap.size w w') (by kernel_rfl) ?_ ?_
  · intro HQ
    have hX10 : w9.drew.heap[X]? = _ := hX9
    have hY10 : w9.drew.heap[Y]? = _ := hY9
    have hA_10 : w9.drew.heap[A]? = _ := hA_9
    have hB_10 : w9.drew.heap[B]? = _ := hB_9
    have hC_10 : w9.drew.heap[C]? = _ := hC_9
    have hD_10 : w9.drew.heap[D]? = _ := hD_9
    have hB10 : Below w.heap.size w w9.drew := hB9.drew
    try simp only [Act.put, List.setIfInBounds_toArray, List.set_cons_zero, List.set_cons_succ]
    refine takeA (i := 0) (v := .agg (ints .u8 one16)) rfl (by kernel_rfl) (fun _ _ _ h => h) rfl (by exact ⟨trivial, fun _ => trivial⟩) (fun wx hx => by kernel_rfl) ?_
    try simp only [Act.put, List.setIfInBounds_toArray, List.set_cons_zero, List.set_cons_succ]
    refine takeA (i := 2) (v := ?_) rfl (by kernel_rfl) (fun _ _ _ h => h) rfl (by exact ⟨trivial, fun _ => trivial⟩) (fun wx hx => ?_) ?_
    rotate_left
    · go_simp; try with_reducible rfl
    try simp only [Act.put, List.setIfInBounds_toArray, List.set_cons_zero, List.set_cons_succ]
    refine wpAnyE_all (rs := [1, 3]) (by kernel_rfl) (by decide) ?_
    intro ir hir
    rcases (show ir = 1 ∨ ir = 3 by simpa using hir) with rfl | rfl
    · refine wpOp_of rfl rfl ?_
      refine wp_mk (T := 25) rfl 16 rfl rfl Tryd.underlying25 (E := 5) (k := .u8) (by' := 1) (by kernel_rfl) (by decide) (by decide) ?_
      intro w11 Z hZ hBZ hzZ hzZ'
      have hX11 := below_blk hBZ hX10
      have hY11 := below_blk hBZ hY10
      have hA_11 := below_blk hBZ hA_10
      have hB_11 := below_blk hBZ hB_10
      have hC_11 := below_blk hBZ hC_10
      have hD_11 := below_blk hBZ hD_10
      have hB11 := hB10.trans (hBZ.mono hB10.size)
      refine ⟨⟨trivial, fun _ => trivial⟩, ?_⟩
      try simp only [Act.put, List.setIfInBounds_toArray, List.set_cons_zero, List.set_cons_succ]
      refine runOne (i := 3) (by kernel_rfl) rfl rfl ?_
      refine wp_st_cell (ty := 3) rfl (g := A) (i := 1) (v := .int .i64 1) rfl rfl rfl (by kernel_rfl) (by exact hA_11) (by rw [pktC_size]; decide) ?_
      rw [pktC_set_peer]
      intro w12 hA_12 hk12
      have hX12 := hk12.heap hX11 hneAX
      have hY12 := hk12.heap hY11 hneAY
      have hB_12 := hk12.heap hB_11 hAB
      have hC_12 := hk12.heap hC_11 hAC
      have hD_12 := hk12.heap hD_11 hAD
      have hB12 := hk12.below hB11 hB11.size (fun k e => by subst e; exact hgeA)
      refine ⟨⟨trivial, fun _ => trivial⟩, ?_⟩
      try simp only [Act.put, List.setIfInBounds_toArray, List.set_cons_zero, List.set_cons_succ]
      refine takeA (i := 4) (v := ?_) rfl (by kernel_rfl) (fun _ _ _ h => h) rfl (by exact ⟨trivial, fun _ => trivial⟩) (fun wx hx => ?_) ?_
      rotate_left
      · go_simp; try with_reducible rfl
      try simp only [Act.put, List.setIfInBounds_toArray, List.set_cons_zero, List.set_cons_succ]
      refine runOne (i := 5) (by kernel_rfl) rfl rfl ?_
      refine wp_st_cell (ty := 22) rfl (g := B) (i := 4) (v := .int .u64 1) rfl rfl rfl (by kernel_rfl) (by exact hB_12) (by rw [pktC_size]; decide) ?_
      rw [pktC_set_count]
      intro w13 hB_13 hk13
      have hX13 := hk13.heap hX12 hneBX
      have hY13 := hk13.heap hY12 hneBY
      have hA_13 := hk13.heap hA_12 (fun e => hAB e.symm)
      have hC_13 := hk13.heap hC_12 hBC
      have hD_13 := hk13.heap hD_12 hBD
      have hB13 := hk13.below hB12 hB12.size (fun k e => by subst e; exact hgeB)
      refine ⟨⟨trivial, fun _ => trivial⟩, ?_⟩
      try simp only [Act.put, List.setIfInBounds_toArray, List.set_cons_zero, List.set_cons_succ]
      refine takeA (i := 6) (v := ?_) rfl (by kernel_rfl) (fun _ _ _ h => h) rfl (by exact ⟨trivial, fun _ => trivial⟩) (fun wx hx => ?_) ?_
      rotate_left
      · go_simp; try with_reducible rfl
      try simp only [Act.put, List.setIfInBounds_toArray, List.set_cons_zero, List.set_cons_succ]
      refine runOne (i := 7) (by kernel_rfl) rfl rfl ?_
      refine wp_st_part (ty := 24) rfl (g := C) (off := 5) (new := ints .u8 one16) rfl rfl (by exact hC_13) (by kernel_rfl) (by rw [pktC_size]; decide) (oneCell_ints _ _) ?_
      rw [pktC_over_random _ _ _ rfl]
      intro w14 hC_14 hk14
      have hX14 := hk14.heap hX13 hneCX
      have hY14 := hk14.heap hY13 hneCY
      have hA_14 := hk14.heap hA_13 (fun e => hAC e.symm)
      have hB_14 := hk14.heap hB_13 (fun e => hBC e.symm)
      have hD_14 := hk14.heap hD_13 hCD
      have hB14 := hk14.below hB13 hB13.size (fun k e => by subst e; exact hgeC)
      refine ⟨⟨trivial, fun _ => trivial⟩, ?_⟩
      try simp only [Act.put, List.setIfInBounds_toArray, List.set_cons_zero, List.set_cons_succ]
      refine takeA (i := 8) (v := ?_) rfl (by kernel_rfl) (fun _ _ _ h => h) rfl (by exact ⟨trivial, fun _ => trivial⟩) (fun wx hx => ?_) ?_
      rotate_left
      · go_simp; try with_reducible rfl
      try simp only [Act.put, List.setIfInBounds_toArray, List.set_cons_zero, List.set_cons_succ]
      refine runOne (i := 9) (by kernel_rfl) rfl rfl ?_
      refine wp_st_cell (ty := 25) rfl (g := D) (i := 37) (v := .slice (some ⟨Z, 0, none⟩) 16 16) rfl rfl rfl (by kernel_rfl) (by exact hD_14) (by rw [pktC_size]; decide) ?_
      rw [pktC_set_body]
      intro w15 hD_15 hk15
      have hX15 := hk15.heap hX14 hneDX
      have hY15 := hk15.heap hY14 hneDY
      have hA_15 := hk15.heap hA_14 (fun e => hAD e.symm)
      have hB_15 := hk15.heap hB_14 (fun e => hBD e.symm)
      have hC_15 := hk15.heap hC_14 (fun e => hCD e.symm)
      have hB15 := hk15.below hB14 hB14.size (fun k e => by subst e; exact hgeD)
      refine ⟨⟨trivial, fun _ => trivial⟩, ?_⟩
      try simp only [Act.put, List.setIfInBounds_toArray, List.set_cons_zero, List.set_cons_succ]
      refine wpAnyE_done (by kernel_rfl) ?_ _
      exact HQ _ _ ⟨Z, by rfl, hX15, hY15, hA_15, hB_15, hC_15, hD_15, hB15⟩
    · refine wpOp_of rfl rfl ?_
      refine wp_st_cell (ty := 3) rfl (g := A) (i := 1) (v := .int .i64 1) rfl rfl rfl (by kernel_rfl) (by exact hA_10) (by rw [pktC_size]; decide) ?_
      rw [pktC_set_peer]
      intro w11 hA_11 hk11
      have hX11 := hk11.heap hX10 hneAX
      have hY11 := hk11.heap hY10 hneAY
      have hB_11 := hk11.heap hB_10 hAB
      have hC_11 := hk11.heap hC_10 hAC
      have hD_11 := hk11.heap hD_10 hAD
      have hB11 := hk11.below hB10 hB10.size (fun k e => by subst e; exact hgeA)
      refine ⟨⟨trivial, fun _ => trivial⟩, ?_⟩
      try simp only [Act.put, List.setIfInBounds_toArray, List.set_cons_zero, List.set_cons_succ]
      refine takeA (i := 4) (v := ?_) rfl (by kernel_rfl) (fun _ _ _ h => h) rfl (by exact ⟨trivial, fun _ => trivial⟩) (fun wx hx => ?_) ?_
      rotate_left
      · go_simp; try with_reducible rfl
      try simp only [Act.put, List.setIfInBounds_toArray, List.set_cons_zero, List.set_cons_succ]
      refine wpAnyE_all (rs := [1, 5]) (by kernel_rfl) (by decide) ?_
      intro ir hir
      rcases (show ir = 1 ∨ ir = 5 by simpa using hir) with rfl | rfl
      · refine wpOp_of rfl rfl ?_
        refine wp_mk (T := 25) rfl 16 rfl rfl Tryd.underlying25 (E := 5) (k := .u8) (by' := 1) (by kernel_rfl) (by decide) (by decide) ?_
        intro w12 Z hZ hBZ hzZ hzZ'
        have hX12 := below_blk hBZ hX11
        have hY12 := below_blk hBZ hY11
        have hA_12 := below_blk hBZ hA_11
        have hB_12 := below_blk hBZ hB_11
        have hC_12 := below_blk hBZ hC_11
        have hD_12 := below_blk hBZ hD_11
        have hB12 := hB11.trans (hBZ.mono hB11.size)
        refine ⟨⟨trivial, fun _ => trivial⟩, ?_⟩
        try simp only [Act.put, List.setIfInBounds_toArray, List.set_cons_zero, List.set_cons_succ]
        refine runOne (i := 5) (by kernel_rfl) rfl rfl ?_
        refine wp_st_cell (ty := 22) rfl (g := B) (i := 4) (v := .int .u64 1) rfl rfl rfl (by kernel_rfl) (by exact hB_12) (by rw [pktC_size]; decide) ?_
        rw [pktC_set_count]
        intro w13 hB_13 hk13
        have hX13 := hk13.heap hX12 hneBX
        have hY13 := hk13.heap hY12 hneBY
        have hA_13 := hk13.heap hA_12 (fun e => hAB e.symm)
        have hC_13 := hk13.heap hC_12 hBC
        have hD_13 := hk13.heap hD_12 hBD
        have hB13 := hk13.below hB12 hB12.size (fun k e => by subst e; exact hgeB)
        refine ⟨⟨trivial, fun _ => trivial⟩, ?_⟩
        try simp only [Act.put, List.setIfInBounds_toArray, List.set_cons_zero, List.set_cons_succ]
        refine takeA (i := 6) (v := ?_) rfl (by kernel_rfl) (fun _ _ _ h => h) rfl (by exact ⟨trivial, fun _ => trivial⟩) (fun wx hx => ?_) ?_
        rotate_left
        · go_simp; try with_reducible rfl
        try simp only [Act.put, List.setIfInBounds_toArray, List.set_cons_zero, List.set_cons_succ]
        refine runOne (i := 7) (by kernel_rfl) rfl rfl ?_
        refine wp_st_part (ty := 24) rfl (g := C) (off := 5) (new := ints .u8 one16) rfl rfl (by exact hC_13) (by kernel_rfl) (by rw [pktC_size]; decide) (oneCell_ints _ _) ?_
        rw [pktC_over_random _ _ _ rfl]
        intro w14 hC_14 hk14
        have hX14 := hk14.heap hX13 hneCX
        have hY14 := hk14.heap hY13 hneCY
        have hA_14 := hk14.heap hA_13 (fun e => hAC e.symm)
        have hB_14 := hk14.heap hB_13 (fun e => hBC e.symm)
        have hD_14 := hk14.heap hD_13 hCD
        have hB14 := hk14.below hB13 hB13.size (fun k e => by subst e; exact hgeC)
        refine ⟨⟨trivial, fun _ => trivial⟩, ?_⟩
        try simp only [Act.put, List.setIfInBounds_toArray, List.set_cons_zero, List.set_cons_succ]
        refine takeA (i := 8) (v := ?_) rfl (by kernel_rfl) (fun _ _ _ h => h) rfl (by exact ⟨trivial, fun _ => trivial⟩) (fun wx hx => ?_) ?_
        rotate_left
        · go_simp; try with_reducible rfl
        try simp only [Act.put, List.setIfInBounds_toArray, List.set_cons_zero, List.set_cons_succ]
        refine runOne (i := 9) (by kernel_rfl) rfl rfl ?_
        refine wp_st_cell (ty := 25) rfl (g := D) (i := 37) (v := .slice (some ⟨Z, 0, none⟩) 16 16) rfl rfl rfl (by kernel_rfl) (by exact hD_14) (by rw [pktC_size]; decide) ?_
        rw [pktC_set_body]
        intro w15 hD_15 hk15
        have hX15 := hk15.heap hX14 hneDX
        have hY15 := hk15.heap hY14 hneDY
        have hA_15 := hk15.heap hA_14 (fun e => hAD e.symm)
        have hB_15 := hk15.heap hB_14 (fun e => hBD e.symm)
        have hC_15 := hk15.heap hC_14 (fun e => hCD e.symm)
        have hB15 := hk15.below hB14 hB14.size (fun k e => by subst e; exact hgeD)
        refine ⟨⟨trivial, fun _ => trivial⟩, ?_⟩
        try simp only [Act.put, List.setIfInBounds_toArray, List.set_cons_zero, List.set_cons_succ]
        refine wpAnyE_done (by kernel_rfl) ?_ _
        exact HQ _ _ ⟨Z, by rfl, hX15, hY15, hA_15, hB_15, hC_15, hD_15, hB15⟩
      · refine wpOp_of rfl rfl ?_
        refine wp_st_cell (ty := 22) rfl (g := B) (i := 4) (v := .int .u64 1) rfl rfl rfl (by kernel_rfl) (by exact hB_11) (by rw [pktC_size]; decide) ?_
        rw [pktC_set_count]
        intro w12 hB_12 hk12
        have hX12 := hk12.heap hX11 hneBX
        have hY12 := hk12.heap hY11 hneBY
        have hA_12 := hk12.heap hA_11 (fun e => hAB e.symm)
        have hC_12 := hk12.heap hC_11 hBC
        have hD_12 := hk12.heap hD_11 hBD
        have hB12 := hk12.below hB11 hB11.size (fun k e => by subst e; exact hgeB)
        refine ⟨⟨trivial, fun _ => trivial⟩, ?_⟩
        try simp only [Act.put, List.setIfInBounds_toArray, List.set_cons_zero, List.set_cons_succ]
        refine takeA (i := 6) (v := ?_) rfl (by kernel_rfl) (fun _ _ _ h => h) rfl (by exact ⟨trivial, fun _ => trivial⟩) (fun wx hx => ?_) ?_
        rotate_left
        · go_simp; try with_reducible rfl
        try simp only [Act.put, List.setIfInBounds_toArray, List.set_cons_zero, List.set_cons_succ]
        refine wpAnyE_all (rs := [1, 7]) (by kernel_rfl) (by decide) ?_
        intro ir hir
        rcases (show ir = 1 ∨ ir = 7 by simpa using hir) with rfl | rfl
        · refine wpOp_of rfl rfl ?_
          refine wp_mk (T := 25) rfl 16 rfl rfl Tryd.underlying25 (E := 5) (k := .u8) (by' := 1) (by kernel_rfl) (by decide) (by decide) ?_
          intro w13 Z hZ hBZ hzZ hzZ'
          have hX13 := below_blk hBZ hX12
          have hY13 := below_blk hBZ hY12
          have hA_13 := below_blk hBZ hA_12
          have hB_13 := below_blk hBZ hB_12
          have hC_13 := below_blk hBZ hC_12
          have hD_13 := below_blk hBZ hD_12
          have hB13 := hB12.trans (hBZ.mono hB12.size)
          refine ⟨⟨trivial, fun _ => trivial⟩, ?_⟩
          try simp only [Act.put, List.setIfInBounds_toArray, List.set_cons_zero, List.set_cons_succ]
          refine runOne (i := 7) (by kernel_rfl) rfl rfl ?_
          refine wp_st_part (ty := 24) rfl (g := C) (off := 5) (new := ints .u8 one16) rfl rfl (by exact hC_13) (by kernel_rfl) (by rw [pktC_size]; decide) (oneCell_ints _ _) ?_
          rw [pktC_over_random _ _ _ rfl]
          intro w14 hC_14 hk14
          have hX14 := hk14.heap hX13 hneCX
          have hY14 := hk14.heap hY13 hneCY
          have hA_14 := hk14.heap hA_13 (fun e => hAC e.symm)
          have hB_14 := hk14.heap hB_13 (fun e => hBC e.symm)
          have hD_14 := hk14.heap hD_13 hCD
          have hB14 := hk14.below hB13 hB13.size (fun k e => by subst e; exact hgeC)
          refine ⟨⟨trivial, fun _ => trivial⟩, ?_⟩
          try simp only [Act.put, List.setIfInBounds_toArray, List.set_cons_zero, List.set_cons_succ]
          refine takeA (i := 8) (v := ?_) rfl (by kernel_rfl) (fun _ _ _ h => h) rfl (by exact ⟨trivial, fun _ => trivial⟩) (fun wx hx => ?_) ?_
          rotate_left
          · go_simp; try with_reducible rfl
          try simp only [Act.put, List.setIfInBounds_toArray, List.set_cons_zero, List.set_cons_succ]
          refine runOne (i := 9) (by kernel_rfl) rfl rfl ?_
          refine wp_st_cell (ty := 25) rfl (g := D) (i := 37) (v := .slice (some ⟨Z, 0, none⟩) 16 16) rfl rfl rfl (by kernel_rfl) (by exact hD_14) (by rw [pktC_size]; decide) ?_
          rw [pktC_set_body]
          intro w15 hD_15 hk15
          have hX15 := hk15.heap hX14 hneDX
          have hY15 := hk15.heap hY14 hneDY
          have hA_15 := hk15.heap hA_14 (fun e => hAD e.symm)
          have hB_15 := hk15.heap hB_14 (fun e => hBD e.symm)
          have hC_15 := hk15.heap hC_14 (fun e => hCD e.symm)
          have hB15 := hk15.below hB14 hB14.size (fun k e => by subst e; exact hgeD)
          refine ⟨⟨trivial, fun _ => trivial⟩, ?_⟩
          try simp only [Act.put, List.setIfInBounds_toArray, List.set_cons_zero, List.set_cons_succ]
          refine wpAnyE_done (by kernel_rfl) ?_ _
          exact HQ _ _ ⟨Z, by rfl, hX15, hY15, hA_15, hB_15, hC_15, hD_15, hB15⟩
        · refine wpOp_of rfl rfl ?_
          refine wp_st_part (ty := 24) rfl (g := C) (off := 5) (new := ints .u8 one16) rfl rfl (by exact hC_12) (by kernel_rfl) (by rw [pktC_size]; decide) (oneCell_ints _ _) ?_
          rw [pktC_over_random _ _ _ rfl]
          intro w13 hC_13 hk13
          have hX13 := hk13.heap hX12 hneCX
          have hY13 := hk13.heap hY12 hneCY
          have hA_13 := hk13.heap hA_12 (fun e => hAC e.symm)
          have hB_13 := hk13.heap hB_12 (fun e => hBC e.symm)
          have hD_13 := hk13.heap hD_12 hCD
          have hB13 := hk13.below hB12 hB12.size (fun k e => by subst e; exact hgeC)
          refine ⟨⟨trivial, fun _ => trivial⟩, ?_⟩
          try simp only [Act.put, List.setIfInBounds_toArray, List.set_cons_zero, List.set_cons_succ]
          refine runOne (i := 1) (by kernel_rfl) rfl rfl ?_
          refine wp_mk (T := 25) rfl 16 rfl rfl Tryd.underlying25 (E := 5) (k := .u8) (by' := 1) (by kernel_rfl) (by decide) (by decide) ?_
          intro w14 Z hZ hBZ hzZ hzZ'
          have hX14 := below_blk hBZ hX13
          have hY14 := below_blk hBZ hY13
          have hA_14 := below_blk hBZ hA_13
          have hB_14 := below_blk hBZ hB_13
          have hC_14 := below_blk hBZ hC_13
          have hD_14 := below_blk hBZ hD_13
          have hB14 := hB13.trans (hBZ.mono hB13.size)
          refine ⟨⟨trivial, fun _ => trivial⟩, ?_⟩
          try simp only [Act.put, List.setIfInBounds_toArray, List.set_cons_zero, List.set_cons_succ]
          refine takeA (i := 8) (v := ?_) rfl (by kernel_rfl) (fun _ _ _ h => h) rfl (by exact ⟨trivial, fun _ => trivial⟩) (fun wx hx => ?_) ?_
          rotate_left
          · go_simp; try with_reducible rfl
          try simp only [Act.put, List.setIfInBounds_toArray, List.set_cons_zero, List.set_cons_succ]
          refine runOne (i := 9) (by kernel_rfl) rfl rfl ?_
          refine wp_st_cell (ty := 25) rfl (g := D) (i := 37) (v := .slice (some ⟨Z, 0, none⟩) 16 16) rfl rfl rfl (by kernel_rfl) (by exact hD_14) (by rw [pktC_size]; decide) ?_
          rw [pktC_set_body]
          intro w15 hD_15 hk15
          have hX15 := hk15.heap hX14 hneDX
          have hY15 := hk15.heap hY14 hneDY
          have hA_15 := hk15.heap hA_14 (fun e => hAD e.symm)
          have hB_15 := hk15.heap hB_14 (fun e => hBD e.symm)
          have hC_15 := hk15.heap hC_14 (fun e => hCD e.symm)
          have hB15 := hk15.below hB14 hB14.size (fun k e => by subst e; exact hgeD)
          refine ⟨⟨trivial, fun _ => trivial⟩, ?_⟩
          try simp only [Act.put, List.setIfInBounds_toArray, List.set_cons_zero, List.set_cons_succ]
          refine wpAnyE_done (by kernel_rfl) ?_ _
          exact HQ _ _ ⟨Z, by rfl, hX15, hY15, hA_15, hB_15, hC_15, hD_15, hB15⟩
  rintro a' w10 ⟨Z, rfl, hX10, hY10, hA_10, hB_10, hC_10, hD_10, hB10⟩
  try simp only [Act.put, List.setIfInBounds_toArray, List.set_cons_zero, List.set_cons_succ]
  clear hgeA hgeB hgeC hgeD hAB hAC hAD hBC hBD hCD hX9 hY9 hA_9 hB_9 hC_9 hD_9 hB9
  go_wp2
  have hl10 := fun (g : Nat) (c : Array Value) (wx : World) (h : wx.heap[g]? = some (.cells c 27 (0, 0))) (hc : c.size = 38) => run_loadAt_row (P := Tryd.prog) (ty := 27) h Tryd.underlying27 rfl (by kernel_rfl) hc
  have HLD := Lib.hid hl10
  clear hl10
  rcases check_kinds HCX.out with hk | hk | hk | hk
  · have b1 : (x.kind == 1) = true := by rw [hk]; rfl
    have b2 : (x.kind == 2) = false := by rw [hk]; rfl
    have b3 : (x.kind == 3) = false := by rw [hk]; rfl
    have HK := Lib.hid hk
    clear hk
    go_quiet (fail)
    have hq10 : Below w10.heap.size w10 (w10.drewN nq) := below_drewN (Below.refl _ _) nq
    generalize w10.drewN nq = w11 at *
    have hX11 := below_blk hq10 hX10
    have hY11 := below_blk hq10 hY10
    have hA_11 := below_blk hq10 hA_10
    have hB_11 := below_blk hq10 hB_10
    have hC_11 := below_blk hq10 hC_10
    have hD_11 := below_blk hq10 hD_10
    have hB11 := hB10.trans (hq10.mono hB10.size)
    clear hq10 hX10 hY10 hA_10 hB_10 hC_10 hD_10 hB10
    go_wp2_with (first | (refine ld_row rfl (ty := 27) rfl rfl hA_11 Tryd.underlying27 rfl (by kernel_rfl) (pktC_size _ _) ?_) | (go_at_call 11; fail))
    refine (check_any { x with peer := 1 } (ok_peer1 hx) p m.length cp (by omega) _).mono ?_
    rintro e w12 ⟨rfl, hb12⟩
    have hX12 := below_blk hb12 hX11
    have hY12 := below_blk hb12 hY11
    have hB_12 := below_blk hb12 hB_11
    have hC_12 := below_blk hb12 hC_11
    have hD_12 := below_blk hb12 hD_11
    have hB12 := hB11.trans (hb12.mono hB11.size)
    have fA := fields_peer HCX.out
    obtain ⟨cA, hcA⟩ : ∃ c, c = checkS { x with peer := 1 } m.length := ⟨_, rfl⟩
    rw [← hcA] at fA ⊢
    have gA : (cA == 0) = true := by rw [fA, b1]
    clear fA hcA hX11 hY11 hB11 hb12 hA_11 hB_11 hC_11 hD_11
    have hlB := Lib.hid (HLD.out _ _ _ hB_12 (pktC_size _ _))
    go_wp2_with (first | (refine ld_g rfl (ty := 27) rfl (p := .pointer (some ⟨B, 0, none⟩)) rfl hlB.out ?_) | (go_at_call 11; fail))
    refine (check_any { x with count := 1 } (ok_count1 hx) p m.length cp (by omega) _).mono ?_
    rintro e w13 ⟨rfl, hb13⟩
    have hX13 := below_blk hb13 hX12
    have hY13 := below_blk hb13 hY12
    have hC_13 := below_blk hb13 hC_12
    have hD_13 := below_blk hb13 hD_12
    have hB13 := hB12.trans (hb13.mono hB12.size)
    have fB := fields_count HCX.out
    obtain ⟨cB, hcB⟩ : ∃ c, c = checkS { x with count := 1 } m.length := ⟨_, rfl⟩
    rw [← hcB] at fB ⊢
    have gB : (cB == 0) = false := by rw [fB, b3]
    clear fB hcB hX12 hY12 hB12 hb13 hB_12 hC_12 hD_12 hlB
    have hlC := Lib.hid (HLD.out _ _ _ hC_13 (pktC_size _ _))
    go_wp2_with (first | (refine ld_g rfl (ty := 27) rfl (p := .pointer (some ⟨C, 0, none⟩)) rfl hlC.out ?_) | (go_at_call 11; fail))
    refine (check_any { x with random := one16 } (ok_random1 hx) p m.length cp (by omega) _).mono ?_
    rintro e w14 ⟨rfl, hb14⟩
    have hX14 := below_blk hb14 hX13
    have hY14 := below_blk hb14 hY13
    have hD_14 := below_blk hb14 hD_13
    have hB14 := hB13.trans (hb14.mono hB13.size)
    have fC := fields_random HCX.out
    obtain ⟨cC, hcC⟩ : ∃ c, c = checkS { x with random := one16 } m.length := ⟨_, rfl⟩
    rw [← hcC] at fC ⊢
    have gC : (cC == 0) = true := by rw [fC, b1]; rfl
    clear fC hcC hX13 hY13 hB13 hb14 hC_13 hD_13 hlC
    have hlD := Lib.hid (HLD.out _ _ _ hD_14 (pktC_size _ _))
    go_wp2_with (first | (refine ld_g rfl (ty := 27) rfl (p := .pointer (some ⟨D, 0, none⟩)) rfl hlD.out ?_) | (go_at_call 11; fail))
    refine (check_any x hx (some ⟨Z, 0, none⟩) 16 16 (by omega) _).mono ?_
    rintro e w15 ⟨rfl, hb15⟩
    have hX15 := below_blk hb15 hX14
    have hY15 := below_blk hb15 hY14
    have hB15 := hB14.trans (hb15.mono hB14.size)
    have fD := fields_body HCX.out
    obtain ⟨cD, hcD⟩ : ∃ c, c = checkS x 16 := ⟨_, rfl⟩
    rw [← hcD] at fD ⊢
    have gD : (cD == 0) = false := by rw [fD, b3]
    clear fD hcD hX14 hY14 hB14 hb15 hD_14 hlD
    go_wp2
    go_ret
    exact ⟨rfl, hB15⟩
  · have b1 : (x.kind == 1) = false := by rw [hk]; rfl
    have b2 : (x.kind == 2) = true := by rw [hk]; rfl
    have b3 : (x.kind == 3) = false := by rw [hk]; rfl
    have HK := Lib.hid hk
    clear hk
    go_quiet (fail)
    have hq10 : Below w10.heap.size w10 (w10.drewN nq) := below_drewN (Below.refl _ _) nq
    generalize w10.drewN nq = w11 at *
    have hX11 := below_blk hq10 hX10
    have hY11 := below_blk hq10 hY10
    have hA_11 := below_blk hq10 hA_10
    have hB_11 := below_blk hq10 hB_10
    have hC_11 := below_blk hq10 hC_10
    have hD_11 := below_blk hq10 hD_10
    have hB11 := hB10.trans (hq10.mono hB10.size)
    clear hq10 hX10 hY10 hA_10 hB_10 hC_10 hD_10 hB10
    go_wp2_with (first | (refine ld_row rfl (ty := 27) rfl rfl hA_11 Tryd.underlying27 rfl (by kernel_rfl) (pktC_size _ _) ?_) | (go_at_call 11; fail))
    refine (check_any { x with peer := 1 } (ok_peer1 hx) p m.length cp (by omega) _).mono ?_
    rintro e w12 ⟨rfl, hb12⟩
    have hX12 := below_blk hb12 hX11
    have hY12 := below_blk hb12 hY11
    have hB_12 := below_blk hb12 hB_11
    have hC_12 := below_blk hb12 hC_11
    have hD_12 := below_blk hb12 hD_11
    have hB12 := hB11.trans (hb12.mono hB11.size)
    have fA := fields_peer HCX.out
    obtain ⟨cA, hcA⟩ : ∃ c, c = checkS { x with peer := 1 } m.length := ⟨_, rfl⟩
    rw [← hcA] at fA ⊢
    have gA : (cA == 0) = false := by rw [fA, b1]
    clear fA hcA hX11 hY11 hB11 hb12 hA_11 hB_11 hC_11 hD_11
    have hlB := Lib.hid (HLD.out _ _ _ hB_12 (pktC_size _ _))
    go_wp2_with (first | (refine ld_g rfl (ty := 27) rfl (p := .pointer (some ⟨B, 0, none⟩)) rfl hlB.out ?_) | (go_at_call 11; fail))
    refine (check_any { x with count := 1 } (ok_count1 hx) p m.length cp (by omega) _).mono ?_
    rintro e w13 ⟨rfl, hb13⟩
    have hX13 := below_blk hb13 hX12
    have hY13 := below_blk hb13 hY12
    have hC_13 := below_blk hb13 hC_12
    have hD_13 := below_blk hb13 hD_12
    have hB13 := hB12.trans (hb13.mono hB12.size)
    have fB := fields_count HCX.out
    obtain ⟨cB, hcB⟩ : ∃ c, c = checkS { x with count := 1 } m.length := ⟨_, rfl⟩
    rw [← hcB] at fB ⊢
    have gB : (cB == 0) = false := by rw [fB, b3]
    clear fB hcB hX12 hY12 hB12 hb13 hB_12 hC_12 hD_12 hlB
    have hlC := Lib.hid (HLD.out _ _ _ hC_13 (pktC_size _ _))
    go_wp2_with (first | (refine ld_g rfl (ty := 27) rfl (p := .pointer (some ⟨C, 0, none⟩)) rfl hlC.out ?_) | (go_at_call 11; fail))
    refine (check_any { x with random := one16 } (ok_random1 hx) p m.length cp (by omega) _).mono ?_
    rintro e w14 ⟨rfl, hb14⟩
    have hX14 := below_blk hb14 hX13
    have hY14 := below_blk hb14 hY13
    have hD_14 := below_blk hb14 hD_13
    have hB14 := hB13.trans (hb14.mono hB13.size)
    have fC := fields_random HCX.out
    obtain ⟨cC, hcC⟩ : ∃ c, c = checkS { x with random := one16 } m.length := ⟨_, rfl⟩
    rw [← hcC] at fC ⊢
    have gC : (cC == 0) = true := by rw [fC, b1, b2]; rfl
    clear fC hcC hX13 hY13 hB13 hb14 hC_13 hD_13 hlC
    have hlD := Lib.hid (HLD.out _ _ _ hD_14 (pktC_size _ _))
    go_wp2_with (first | (refine ld_g rfl (ty := 27) rfl (p := .pointer (some ⟨D, 0, none⟩)) rfl hlD.out ?_) | (go_at_call 11; fail))
    refine (check_any x hx (some ⟨Z, 0, none⟩) 16 16 (by omega) _).mono ?_
    rintro e w15 ⟨rfl, hb15⟩
    have hX15 := below_blk hb15 hX14
    have hY15 := below_blk hb15 hY14
    have hB15 := hB14.trans (hb15.mono hB14.size)
    have fD := fields_body HCX.out
    obtain ⟨cD, hcD⟩ : ∃ c, c = checkS x 16 := ⟨_, rfl⟩
    rw [← hcD] at fD ⊢
    have gD : (cD == 0) = false := by rw [fD, b3]
    clear fD hcD hX14 hY14 hB14 hb15 hD_14 hlD
    go_wp2
    go_ret
    exact ⟨rfl, hB15⟩
  · have b1 : (x.kind == 1) = false := by rw [hk]; rfl
    have b2 : (x.kind == 2) = false := by rw [hk]; rfl
    have b3 : (x.kind == 3) = true := by rw [hk]; rfl
    have HK := Lib.hid hk
    clear hk
    go_quiet (fail)
    have hq10 : Below w10.heap.size w10 (w10.drewN nq) := below_drewN (Below.refl _ _) nq
    generalize w10.drewN nq = w11 at *
    have hX11 := below_blk hq10 hX10
    have hY11 := below_blk hq10 hY10
    have hA_11 := below_blk hq10 hA_10
    have hB_11 := below_blk hq10 hB_10
    have hC_11 := below_blk hq10 hC_10
    have hD_11 := below_blk hq10 hD_10
    have hB11 := hB10.trans (hq10.mono hB10.size)
    clear hq10 hX10 hY10 hA_10 hB_10 hC_10 hD_10 hB10
    go_wp2_with (first | (refine ld_row rfl (ty := 27) rfl rfl hA_11 Tryd.underlying27 rfl (by kernel_rfl) (pktC_size _ _) ?_) | (go_at_call 11; fail))
    refine (check_any { x with peer := 1 } (ok_peer1 hx) p m.length cp (by omega) _).mono ?_
    rintro e w12 ⟨rfl, hb12⟩
    have hX12 := below_blk hb12 hX11
    have hY12 := below_blk hb12 hY11
    have hB_12 := below_blk hb12 hB_11
    have hC_12 := below_blk hb12 hC_11
    have hD_12 := below_blk hb12 hD_11
    have hB12 := hB11.trans (hb12.mono hB11.size)
    have fA := fields_peer HCX.out
    obtain ⟨cA, hcA⟩ : ∃ c, c = checkS { x with peer := 1 } m.length := ⟨_, rfl⟩
    rw [← hcA] at fA ⊢
    have gA : (cA == 0) = false := by rw [fA, b1]
    clear fA hcA hX11 hY11 hB11 hb12 hA_11 hB_11 hC_11 hD_11
    have hlB := Lib.hid (HLD.out _ _ _ hB_12 (pktC_size _ _))
    go_wp2_with (first | (refine ld_g rfl (ty := 27) rfl (p := .pointer (some ⟨B, 0, none⟩)) rfl hlB.out ?_) | (go_at_call 11; fail))
    refine (check_any { x with count := 1 } (ok_count1 hx) p m.length cp (by omega) _).mono ?_
    rintro e w13 ⟨rfl, hb13⟩
    have hX13 := below_blk hb13 hX12
    have hY13 := below_blk hb13 hY12
    have hC_13 := below_blk hb13 hC_12
    have hD_13 := below_blk hb13 hD_12
    have hB13 := hB12.trans (hb13.mono hB12.size)
    have fB := fields_count HCX.out
    obtain ⟨cB, hcB⟩ : ∃ c, c = checkS { x with count := 1 } m.length := ⟨_, rfl⟩
    rw [← hcB] at fB ⊢
    have gB : (cB == 0) = true := by rw [fB, b3]
    clear fB hcB hX12 hY12 hB12 hb13 hB_12 hC_12 hD_12 hlB
    have hlC := Lib.hid (HLD.out _ _ _ hC_13 (pktC_size _ _))
    go_wp2_with (first | (refine ld_g rfl (ty := 27) rfl (p := .pointer (some ⟨C, 0, none⟩)) rfl hlC.out ?_) | (go_at_call 11; fail))
    refine (check_any { x with random := one16 } (ok_random1 hx) p m.length cp (by omega) _).mono ?_
    rintro e w14 ⟨rfl, hb14⟩
    have hX14 := below_blk hb14 hX13
    have hY14 := below_blk hb14 hY13
    have hD_14 := below_blk hb14 hD_13
    have hB14 := hB13.trans (hb14.mono hB13.size)
    have fC := fields_random HCX.out
    obtain ⟨cC, hcC⟩ : ∃ c, c = checkS { x with random := one16 } m.length := ⟨_, rfl⟩
    rw [← hcC] at fC ⊢
    have gC : (cC == 0) = false := by rw [fC, b1, b2]; rfl
    clear fC hcC hX13 hY13 hB13 hb14 hC_13 hD_13 hlC
    have hlD := Lib.hid (HLD.out _ _ _ hD_14 (pktC_size _ _))
    go_wp2_with (first | (refine ld_g rfl (ty := 27) rfl (p := .pointer (some ⟨D, 0, none⟩)) rfl hlD.out ?_) | (go_at_call 11; fail))
    refine (check_any x hx (some ⟨Z, 0, none⟩) 16 16 (by omega) _).mono ?_
    rintro e w15 ⟨rfl, hb15⟩
    have hX15 := below_blk hb15 hX14
    have hY15 := below_blk hb15 hY14
    have hB15 := hB14.trans (hb15.mono hB14.size)
    have fD := fields_body HCX.out
    obtain ⟨cD, hcD⟩ : ∃ c, c = checkS x 16 := ⟨_, rfl⟩
    rw [← hcD] at fD ⊢
    have gD : (cD == 0) = true := by rw [fD, b3]
    clear fD hcD hX14 hY14 hB14 hb15 hD_14 hlD
    by_cases hky : y.kind = 3
    · have d2 : (y.kind != 3) = false := by rw [hky]; rfl
      have d1 : (y.kind == 3) = true := by rw [hky]; rfl
      have HKY := Lib.hid hky
      clear hky
      have halx := (fun (w : World) => (along_any x hx p m.length cp w).mono (fun e w' h => h.form))
      have haly := (fun (w : World) => (along_any y hy q n.length cq w).mono (fun e w' h => h.form))
      have ea : alongS x = writeS x [] := by unfold alongS; rw [along_of_check HK.out HCX.out, if_pos rfl]
      have eb : alongS y = writeS y [] := by unfold alongS; rw [along_of_check HKY.out HCY.out, if_pos rfl]
      rw [ea] at halx
      rw [eb] at haly
      obtain ⟨L1, hL1⟩ : ∃ L, L = writeS x [] := ⟨_, rfl⟩
      obtain ⟨L2, hL2⟩ : ∃ L, L = writeS y [] := ⟨_, rfl⟩
      rw [← hL1] at halx
      rw [← hL2] at haly
      have HALX := Lib.hid halx
      have HALY := Lib.hid haly
      clear halx haly ea eb
      by_cases hs : x.session = y.session
      · by_cases he : x.epoch = y.epoch
        · by_cases hc : x.count = y.count
          · have hE : ((strOfNums L1).toList == (strOfNums L2).toList) = true := by rw [hL1, hL2, str_beqL (writeS_bd hx (by simp) (Bd.nil (by decide))) (writeS_bd hy (by simp) (Bd.nil (by decide)))]; exact decide_eq_true ((write3_iff hx hy HK.out HKY.out).2 ⟨hs, he, hc⟩)
            have HE := Lib.hid hE
            clear hE
            have k1 : (x.session == y.session) = true := beq_iff_eq.2 hs
            have k2 : (x.epoch == y.epoch) = true := beq_iff_eq.2 he
            have k3 : (x.count == y.count) = true := beq_iff_eq.2 hc
            clear hs he hc
            clear hL1 hL2
            go_wp2
            have hE := HE.out
            refine wp_region_E [1] (S1 (fun w' => w'.heap[X]? = some (.cells (pktC x (.slice p m.length cp)) 27 (0, 0)) ∧ w'.heap[Y]? = some (.cells (pktC y (.slice q n.length cq)) 27 (0, 0))) (fun _ => True)) (by kernel_rfl) ?_
            have hI0 : S1 (fun w' => w'.heap[X]? = some (.cells (pktC x (.slice p m.length cp)) 27 (0, 0)) ∧ w'.heap[Y]? = some (.cells (pktC y (.slice q n.length cq)) 27 (0, 0))) (fun _ => True) [false] w15.drew := ⟨⟨hX15, hY15⟩, fun _ => trivial⟩
            have hBd : Below w.heap.size w w15.drew := hB15.drew
            try simp only [Act.put, List.setIfInBounds_toArray, List.set_cons_zero, List.set_cons_succ]
            refine takeA (i := 0) (v := ?_) rfl (by kernel_rfl) (fun _ _ _ h => h) rfl (by exact hI0) (fun wx hx => ?_) ?_
            rotate_left
            · refine (exec_load (p := .pointer (some ⟨X, 0, none⟩)) rfl rfl (HLX.out _ hx.1)).trans ?_; with_reducible rfl
            try simp only [Act.put, List.setIfInBounds_toArray, List.set_cons_zero, List.set_cons_succ]
            refine takeA (i := 3) (v := ?_) rfl (by kernel_rfl) (fun _ _ _ h => h) rfl (by exact hI0) (fun wx hx => ?_) ?_
            rotate_left
            · refine (exec_load (p := .pointer (some ⟨Y, 0, none⟩)) rfl rfl (HLY.out _ hx.2)).trans ?_; with_reducible rfl
            try simp only [Act.put, List.setIfInBounds_toArray, List.set_cons_zero, List.set_cons_succ]
            refine takeA (i := 7) (v := ?_) rfl (by kernel_rfl) (fun _ _ _ h => h) rfl (by exact hI0) (fun wx hx => ?_) ?_
            rotate_left
            · go_simp; try with_reducible rfl
            try simp only [Act.put, List.setIfInBounds_toArray, List.set_cons_zero, List.set_cons_succ]
            refine runOne (i := 1) (by kernel_rfl) rfl rfl ?_
            go_simp
            refine (HALX.out w15.drew).mono ?_
            rintro e wa ⟨pa, ca, rfl, hSa, hBa⟩
            have hBwa := hBd.trans (hBa.mono hBd.size)
            have hXa := below_blk hBa (show w15.drew.heap[X]? = _ from hX15)
            have hYa := below_blk hBa (show w15.drew.heap[Y]? = _ from hY15)
            refine ⟨⟨⟨hXa, hYa⟩, fun _ => trivial⟩, ?_⟩
            refine strongA (A' := (fun w' => (w'.heap[X]? = some (.cells (pktC x (.slice p m.length cp)) 27 (0, 0)) ∧ w'.heap[Y]? = some (.cells (pktC y (.slice q n.length cq)) 27 (0, 0))) ∧ SL .u8 w' pa L1)) (fun _ h => h.1) ?_
            have hI1 : S1 (fun w' => (w'.heap[X]? = some (.cells (pktC x (.slice p m.length cp)) 27 (0, 0)) ∧ w'.heap[Y]? = some (.cells (pktC y (.slice q n.length cq)) 27 (0, 0))) ∧ SL .u8 w' pa L1) (fun _ => True) [true] wa := ⟨⟨⟨hXa, hYa⟩, hSa⟩, fun _ => trivial⟩
            try simp only [Act.put, List.setIfInBounds_toArray, List.set_cons_zero, List.set_cons_succ]
            refine takeA (i := 2) (v := ?_) rfl (by kernel_rfl) (fun _ _ _ h => h) rfl (by exact hI1) (fun wx hx => ?_) ?_
            rotate_left
            · refine (exec_conv (v := .slice pa L1.length ca) rfl rfl (run_str (P := Tryd.prog) (dst := 9) Tryd.underlying25 Tryd.underlying5 Tryd.underlying9 hx.2 _ _ rfl)).trans ?_; with_reducible rfl
            try simp only [Act.put, List.setIfInBounds_toArray, List.set_cons_zero, List.set_cons_succ]
            refine runOne (i := 4) (by kernel_rfl) rfl rfl ?_
            go_simp
            refine (HALY.out wa).mono ?_
            rintro e wb ⟨pb, cb, rfl, hSb, hBb⟩
            have hBwb := hBwa.trans (hBb.mono hBwa.size)
            have hXb := below_blk hBb hXa
            have hYb := below_blk hBb hYa
            have hSab := hSa.below hBb
            refine ⟨⟨⟨⟨hXb, hYb⟩, hSab⟩, fun _ => trivial⟩, ?_⟩
            refine strongA (A' := (fun w' => ((w'.heap[X]? = some (.cells (pktC x (.slice p m.length cp)) 27 (0, 0)) ∧ w'.heap[Y]? = some (.cells (pktC y (.slice q n.length cq)) 27 (0, 0))) ∧ SL .u8 w' pa L1) ∧ SL .u8 w' pb L2)) (fun _ h => h.1) ?_
            have hI2 : S1 (fun w' => ((w'.heap[X]? = some (.cells (pktC x (.slice p m.length cp)) 27 (0, 0)) ∧ w'.heap[Y]? = some (.cells (pktC y (.slice q n.length cq)) 27 (0, 0))) ∧ SL .u8 w' pa L1) ∧ SL .u8 w' pb L2) (fun _ => True) [true] wb := ⟨⟨⟨⟨hXb, hYb⟩, hSab⟩, hSb⟩, fun _ => trivial⟩
            try simp only [Act.put, List.setIfInBounds_toArray, List.set_cons_zero, List.set_cons_succ]
            refine takeA (i := 5) (v := ?_) rfl (by kernel_rfl) (fun _ _ _ h => h) rfl (by exact hI2) (fun wx hx => ?_) ?_
            rotate_left
            · refine (exec_conv (v := .slice pb L2.length cb) rfl rfl (run_str (P := Tryd.prog) (dst := 9) Tryd.underlying25 Tryd.underlying5 Tryd.underlying9 hx.2 _ _ rfl)).trans ?_; with_reducible rfl
            try simp only [Act.put, List.setIfInBounds_toArray, List.set_cons_zero, List.set_cons_succ]
            refine takeA (i := 6) (v := ?_) rfl (by kernel_rfl) (fun _ _ _ h => h) rfl (by exact hI2) (fun wx hx => ?_) ?_
            rotate_left
            · go_simp; try with_reducible rfl
            try simp only [Act.put, List.setIfInBounds_toArray, List.set_cons_zero, List.set_cons_succ]
            refine takeA (i := 8) (v := ?_) rfl (by kernel_rfl) (fun _ _ _ h => h) rfl (by exact hI2) (fun wx hx => ?_) ?_
            rotate_left
            · go_simp; try with_reducible rfl
            try simp only [Act.put, List.setIfInBounds_toArray, List.set_cons_zero, List.set_cons_succ]
            refine takeA (i := 9) (v := ?_) rfl (by kernel_rfl) (fun _ _ _ h => h) rfl (by exact hI2) (fun wx hx => ?_) ?_
            rotate_left
            · go_simp; try with_reducible rfl
            try simp only [Act.put, List.setIfInBounds_toArray, List.set_cons_zero, List.set_cons_succ]
            refine wpAnyE_done (by kernel_rfl) ?_ _
            go_wp2
            go_ret
            exact ⟨rfl, hBwb⟩
          · have hE : ((strOfNums L1).toList == (strOfNums L2).toList) = false := by rw [hL1, hL2, str_beqL (writeS_bd hx (by simp) (Bd.nil (by decide))) (writeS_bd hy (by simp) (Bd.nil (by decide)))]; exact decide_eq_false (fun h => by have h := (write3_iff hx hy HK.out HKY.out).1 h; first | exact hs h.1 | exact he h.2.1 | exact hc h.2.2)
            have HE := Lib.hid hE
            clear hE
            have k1 : (x.session == y.session) = true := beq_iff_eq.2 hs
            have k2 : (x.epoch == y.epoch) = true := beq_iff_eq.2 he
            have k3 : (x.count == y.count) = false := beq_eq_false_iff_ne.2 hc
            clear hs he hc
            clear hL1 hL2
            go_wp2
            have hE := HE.out
            refine wp_region_E [1] (S1 (fun w' => w'.heap[X]? = some (.cells (pktC x (.slice p m.length cp)) 27 (0, 0)) ∧ w'.heap[Y]? = some (.cells (pktC y (.slice q n.length cq)) 27 (0, 0))) (fun _ => True)) (by kernel_rfl) ?_
            have hI0 : S1 (fun w' => w'.heap[X]? = some (.cells (pktC x (.slice p m.length cp)) 27 (0, 0)) ∧ w'.heap[Y]? = some (.cells (pktC y (.slice q n.length cq)) 27 (0, 0))) (fun _ => True) [false] w15.drew := ⟨⟨hX15, hY15⟩, fun _ => trivial⟩
            have hBd : Below w.heap.size w w15.drew := hB15.drew
            try simp only [Act.put, List.setIfInBounds_toArray, List.set_cons_zero, List.set_cons_succ]
            refine takeA (i := 0) (v := ?_) rfl (by kernel_rfl) (fun _ _ _ h => h) rfl (by exact hI0) (fun wx hx => ?_) ?_
            rotate_left
            · refine (exec_load (p := .pointer (some ⟨X, 0, none⟩)) rfl rfl (HLX.out _ hx.1)).trans ?_; with_reducible rfl
            try simp only [Act.put, List.setIfInBounds_toArray, List.set_cons_zero, List.set_cons_succ]
            refine takeA (i := 3) (v := ?_) rfl (by kernel_rfl) (fun _ _ _ h => h) rfl (by exact hI0) (fun wx hx => ?_) ?_
            rotate_left
            · refine (exec_load (p := .pointer (some ⟨Y, 0, none⟩)) rfl rfl (HLY.out _ hx.2)).trans ?_; with_reducible rfl
            try simp only [Act.put, List.setIfInBounds_toArray, List.set_cons_zero, List.set_cons_succ]
            refine takeA (i := 7) (v := ?_) rfl (by kernel_rfl) (fun _ _ _ h => h) rfl (by exact hI0) (fun wx hx => ?_) ?_
            rotate_left
            · go_simp; try with_reducible rfl
            try simp only [Act.put, List.setIfInBounds_toArray, List.set_cons_zero, List.set_cons_succ]
            refine runOne (i := 1) (by kernel_rfl) rfl rfl ?_
            go_simp
            refine (HALX.out w15.drew).mono ?_
            rintro e wa ⟨pa, ca, rfl, hSa, hBa⟩
            have hBwa := hBd.trans (hBa.mono hBd.size)
            have hXa := below_blk hBa (show w15.drew.heap[X]? = _ from hX15)
            have hYa := below_blk hBa (show w15.drew.heap[Y]? = _ from hY15)
            refine ⟨⟨⟨hXa, hYa⟩, fun _ => trivial⟩, ?_⟩
            refine strongA (A' := (fun w' => (w'.heap[X]? = some (.cells (pktC x (.slice p m.length cp)) 27 (0, 0)) ∧ w'.heap[Y]? = some (.cells (pktC y (.slice q n.length cq)) 27 (0, 0))) ∧ SL .u8 w' pa L1)) (fun _ h => h.1) ?_
            have hI1 : S1 (fun w' => (w'.heap[X]? = some (.cells (pktC x (.slice p m.length cp)) 27 (0, 0)) ∧ w'.heap[Y]? = some (.cells (pktC y (.slice q n.length cq)) 27 (0, 0))) ∧ SL .u8 w' pa L1) (fun _ => True) [true] wa := ⟨⟨⟨hXa, hYa⟩, hSa⟩, fun _ => trivial⟩
            try simp only [Act.put, List.setIfInBounds_toArray, List.set_cons_zero, List.set_cons_succ]
            refine takeA (i := 2) (v := ?_) rfl (by kernel_rfl) (fun _ _ _ h => h) rfl (by exact hI1) (fun wx hx => ?_) ?_
            rotate_left
            · refine (exec_conv (v := .slice pa L1.length ca) rfl rfl (run_str (P := Tryd.prog) (dst := 9) Tryd.underlying25 Tryd.underlying5 Tryd.underlying9 hx.2 _ _ rfl)).trans ?_; with_reducible rfl
            try simp only [Act.put, List.setIfInBounds_toArray, List.set_cons_zero, List.set_cons_succ]
            refine runOne (i := 4) (by kernel_rfl) rfl rfl ?_
            go_simp
            refine (HALY.out wa).mono ?_
            rintro e wb ⟨pb, cb, rfl, hSb, hBb⟩
            have hBwb := hBwa.trans (hBb.mono hBwa.size)
            have hXb := below_blk hBb hXa
            have hYb := below_blk hBb hYa
            have hSab := hSa.below hBb
            refine ⟨⟨⟨⟨hXb, hYb⟩, hSab⟩, fun _ => trivial⟩, ?_⟩
            refine strongA (A' := (fun w' => ((w'.heap[X]? = some (.cells (pktC x (.slice p m.length cp)) 27 (0, 0)) ∧ w'.heap[Y]? = some (.cells (pktC y (.slice q n.length cq)) 27 (0, 0))) ∧ SL .u8 w' pa L1) ∧ SL .u8 w' pb L2)) (fun _ h => h.1) ?_
            have hI2 : S1 (fun w' => ((w'.heap[X]? = some (.cells (pktC x (.slice p m.length cp)) 27 (0, 0)) ∧ w'.heap[Y]? = some (.cells (pktC y (.slice q n.length cq)) 27 (0, 0))) ∧ SL .u8 w' pa L1) ∧ SL .u8 w' pb L2) (fun _ => True) [true] wb := ⟨⟨⟨⟨hXb, hYb⟩, hSab⟩, hSb⟩, fun _ => trivial⟩
            try simp only [Act.put, List.setIfInBounds_toArray, List.set_cons_zero, List.set_cons_succ]
            refine takeA (i := 5) (v := ?_) rfl (by kernel_rfl) (fun _ _ _ h => h) rfl (by exact hI2) (fun wx hx => ?_) ?_
            rotate_left
            · refine (exec_conv (v := .slice pb L2.length cb) rfl rfl (run_str (P := Tryd.prog) (dst := 9) Tryd.underlying25 Tryd.underlying5 Tryd.underlying9 hx.2 _ _ rfl)).trans ?_; with_reducible rfl
            try simp only [Act.put, List.setIfInBounds_toArray, List.set_cons_zero, List.set_cons_succ]
            refine takeA (i := 6) (v := ?_) rfl (by kernel_rfl) (fun _ _ _ h => h) rfl (by exact hI2) (fun wx hx => ?_) ?_
            rotate_left
            · go_simp; try with_reducible rfl
            try simp only [Act.put, List.setIfInBounds_toArray, List.set_cons_zero, List.set_cons_succ]
            refine takeA (i := 8) (v := ?_) rfl (by kernel_rfl) (fun _ _ _ h => h) rfl (by exact hI2) (fun wx hx => ?_) ?_
            rotate_left
            · go_simp; try with_reducible rfl
            try simp only [Act.put, List.setIfInBounds_toArray, List.set_cons_zero, List.set_cons_succ]
            refine takeA (i := 9) (v := ?_) rfl (by kernel_rfl) (fun _ _ _ h => h) rfl (by exact hI2) (fun wx hx => ?_) ?_
            rotate_left
            · go_simp; try with_reducible rfl
            try simp only [Act.put, List.setIfInBounds_toArray, List.set_cons_zero, List.set_cons_succ]
            refine wpAnyE_done (by kernel_rfl) ?_ _
            go_wp2
            go_ret
            exact ⟨rfl, hBwb⟩
        · have hE : ((strOfNums L1).toList == (strOfNums L2).toList) = false := by rw [hL1, hL2, str_beqL (writeS_bd hx (by simp) (Bd.nil (by decide))) (writeS_bd hy (by simp) (Bd.nil (by decide)))]; exact decide_eq_false (fun h => by have h := (write3_iff hx hy HK.out HKY.out).1 h; first | exact hs h.1 | exact he h.2.1 | exact hc h.2.2)
          have HE := Lib.hid hE
          clear hE
          have k1 : (x.session == y.session) = true := beq_iff_eq.2 hs
          have k2 : (x.epoch == y.epoch) = false := beq_eq_false_iff_ne.2 he
          clear hs he
          clear hL1 hL2
          go_wp2
          have hE := HE.out
          refine wp_region_E [1] (S1 (fun w' => w'.heap[X]? = some (.cells (pktC x (.slice p m.length cp)) 27 (0, 0)) ∧ w'.heap[Y]? = some (.cells (pktC y (.slice q n.length cq)) 27 (0, 0))) (fun _ => True)) (by kernel_rfl) ?_
          have hI0 : S1 (fun w' => w'.heap[X]? = some (.cells (pktC x (.slice p m.length cp)) 27 (0, 0)) ∧ w'.heap[Y]? = some (.cells (pktC y (.slice q n.length cq)) 27 (0, 0))) (fun _ => True) [false] w15.drew := ⟨⟨hX15, hY15⟩, fun _ => trivial⟩
          have hBd : Below w.heap.size w w15.drew := hB15.drew
          try simp only [Act.put, List.setIfInBounds_toArray, List.set_cons_zero, List.set_cons_succ]
          refine takeA (i := 0) (v := ?_) rfl (by kernel_rfl) (fun _ _ _ h => h) rfl (by exact hI0) (fun wx hx => ?_) ?_
          rotate_left
          · refine (exec_load (p := .pointer (some ⟨X, 0, none⟩)) rfl rfl (HLX.out _ hx.1)).trans ?_; with_reducible rfl
          try simp only [Act.put, List.setIfInBounds_toArray, List.set_cons_zero, List.set_cons_succ]
          refine takeA (i := 3) (v := ?_) rfl (by kernel_rfl) (fun _ _ _ h => h) rfl (by exact hI0) (fun wx hx => ?_) ?_
          rotate_left
          · refine (exec_load (p := .pointer (some ⟨Y, 0, none⟩)) rfl rfl (HLY.out _ hx.2)).trans ?_; with_reducible rfl
          try simp only [Act.put, List.setIfInBounds_toArray, List.set_cons_zero, List.set_cons_succ]
          refine takeA (i := 7) (v := ?_) rfl (by kernel_rfl) (fun _ _ _ h => h) rfl (by exact hI0) (fun wx hx => ?_) ?_
          rotate_left
          · go_simp; try with_reducible rfl
          try simp only [Act.put, List.setIfInBounds_toArray, List.set_cons_zero, List.set_cons_succ]
          refine runOne (i := 1) (by kernel_rfl) rfl rfl ?_
          go_simp
          refine (HALX.out w15.drew).mono ?_
          rintro e wa ⟨pa, ca, rfl, hSa, hBa⟩
          have hBwa := hBd.trans (hBa.mono hBd.size)
          have hXa := below_blk hBa (show w15.drew.heap[X]? = _ from hX15)
          have hYa := below_blk hBa (show w15.drew.heap[Y]? = _ from hY15)
          refine ⟨⟨⟨hXa, hYa⟩, fun _ => trivial⟩, ?_⟩
          refine strongA (A' := (fun w' => (w'.heap[X]? = some (.cells (pktC x (.slice p m.length cp)) 27 (0, 0)) ∧ w'.heap[Y]? = some (.cells (pktC y (.slice q n.length cq)) 27 (0, 0))) ∧ SL .u8 w' pa L1)) (fun _ h => h.1) ?_
          have hI1 : S1 (fun w' => (w'.heap[X]? = some (.cells (pktC x (.slice p m.length cp)) 27 (0, 0)) ∧ w'.heap[Y]? = some (.cells (pktC y (.slice q n.length cq)) 27 (0, 0))) ∧ SL .u8 w' pa L1) (fun _ => True) [true] wa := ⟨⟨⟨hXa, hYa⟩, hSa⟩, fun _ => trivial⟩
          try simp only [Act.put, List.setIfInBounds_toArray, List.set_cons_zero, List.set_cons_succ]
          refine takeA (i := 2) (v := ?_) rfl (by kernel_rfl) (fun _ _ _ h => h) rfl (by exact hI1) (fun wx hx => ?_) ?_
          rotate_left
          · refine (exec_conv (v := .slice pa L1.length ca) rfl rfl (run_str (P := Tryd.prog) (dst := 9) Tryd.underlying25 Tryd.underlying5 Tryd.underlying9 hx.2 _ _ rfl)).trans ?_; with_reducible rfl
          try simp only [Act.put, List.setIfInBounds_toArray, List.set_cons_zero, List.set_cons_succ]
          refine runOne (i := 4) (by kernel_rfl) rfl rfl ?_
          go_simp
          refine (HALY.out wa).mono ?_
          rintro e wb ⟨pb, cb, rfl, hSb, hBb⟩
          have hBwb := hBwa.trans (hBb.mono hBwa.size)
          have hXb := below_blk hBb hXa
          have hYb := below_blk hBb hYa
          have hSab := hSa.below hBb
          refine ⟨⟨⟨⟨hXb, hYb⟩, hSab⟩, fun _ => trivial⟩, ?_⟩
          refine strongA (A' := (fun w' => ((w'.heap[X]? = some (.cells (pktC x (.slice p m.length cp)) 27 (0, 0)) ∧ w'.heap[Y]? = some (.cells (pktC y (.slice q n.length cq)) 27 (0, 0))) ∧ SL .u8 w' pa L1) ∧ SL .u8 w' pb L2)) (fun _ h => h.1) ?_
          have hI2 : S1 (fun w' => ((w'.heap[X]? = some (.cells (pktC x (.slice p m.length cp)) 27 (0, 0)) ∧ w'.heap[Y]? = some (.cells (pktC y (.slice q n.length cq)) 27 (0, 0))) ∧ SL .u8 w' pa L1) ∧ SL .u8 w' pb L2) (fun _ => True) [true] wb := ⟨⟨⟨⟨hXb, hYb⟩, hSab⟩, hSb⟩, fun _ => trivial⟩
          try simp only [Act.put, List.setIfInBounds_toArray, List.set_cons_zero, List.set_cons_succ]
          refine takeA (i := 5) (v := ?_) rfl (by kernel_rfl) (fun _ _ _ h => h) rfl (by exact hI2) (fun wx hx => ?_) ?_
          rotate_left
          · refine (exec_conv (v := .slice pb L2.length cb) rfl rfl (run_str (P := Tryd.prog) (dst := 9) Tryd.underlying25 Tryd.underlying5 Tryd.underlying9 hx.2 _ _ rfl)).trans ?_; with_reducible rfl
          try simp only [Act.put, List.setIfInBounds_toArray, List.set_cons_zero, List.set_cons_succ]
          refine takeA (i := 6) (v := ?_) rfl (by kernel_rfl) (fun _ _ _ h => h) rfl (by exact hI2) (fun wx hx => ?_) ?_
          rotate_left
          · go_simp; try with_reducible rfl
          try simp only [Act.put, List.setIfInBounds_toArray, List.set_cons_zero, List.set_cons_succ]
          refine takeA (i := 8) (v := ?_) rfl (by kernel_rfl) (fun _ _ _ h => h) rfl (by exact hI2) (fun wx hx => ?_) ?_
          rotate_left
          · go_simp; try with_reducible rfl
          try simp only [Act.put, List.setIfInBounds_toArray, List.set_cons_zero, List.set_cons_succ]
          refine takeA (i := 9) (v := ?_) rfl (by kernel_rfl) (fun _ _ _ h => h) rfl (by exact hI2) (fun wx hx => ?_) ?_
          rotate_left
          · go_simp; try with_reducible rfl
          try simp only [Act.put, List.setIfInBounds_toArray, List.set_cons_zero, List.set_cons_succ]
          refine wpAnyE_done (by kernel_rfl) ?_ _
          go_wp2
          go_ret
          exact ⟨rfl, hBwb⟩
      · have hE : ((strOfNums L1).toList == (strOfNums L2).toList) = false := by rw [hL1, hL2, str_beqL (writeS_bd hx (by simp) (Bd.nil (by decide))) (writeS_bd hy (by simp) (Bd.nil (by decide)))]; exact decide_eq_false (fun h => by have h := (write3_iff hx hy HK.out HKY.out).1 h; first | exact hs h.1 | exact he h.2.1 | exact hc h.2.2)
        have HE := Lib.hid hE
        clear hE
        have k1 : (x.session == y.session) = false := beq_eq_false_iff_ne.2 hs
        clear hs
        clear hL1 hL2
        go_wp2
        have hE := HE.out
        refine wp_region_E [1] (S1 (fun w' => w'.heap[X]? = some (.cells (pktC x (.slice p m.length cp)) 27 (0, 0)) ∧ w'.heap[Y]? = some (.cells (pktC y (.slice q n.length cq)) 27 (0, 0))) (fun _ => True)) (by kernel_rfl) ?_
        have hI0 : S1 (fun w' => w'.heap[X]? = some (.cells (pktC x (.slice p m.length cp)) 27 (0, 0)) ∧ w'.heap[Y]? = some (.cells (pktC y (.slice q n.length cq)) 27 (0, 0))) (fun _ => True) [false] w15.drew := ⟨⟨hX15, hY15⟩, fun _ => trivial⟩
        have hBd : Below w.heap.size w w15.drew := hB15.drew
        try simp only [Act.put, List.setIfInBounds_toArray, List.set_cons_zero, List.set_cons_succ]
        refine takeA (i := 0) (v := ?_) rfl (by kernel_rfl) (fun _ _ _ h => h) rfl (by exact hI0) (fun wx hx => ?_) ?_
        rotate_left
        · refine (exec_load (p := .pointer (some ⟨X, 0, none⟩)) rfl rfl (HLX.out _ hx.1)).trans ?_; with_reducible rfl
        try simp only [Act.put, List.setIfInBounds_toArray, List.set_cons_zero, List.set_cons_succ]
        refine takeA (i := 3) (v := ?_) rfl (by kernel_rfl) (fun _ _ _ h => h) rfl (by exact hI0) (fun wx hx => ?_) ?_
        rotate_left
        · refine (exec_load (p := .pointer (some ⟨Y, 0, none⟩)) rfl rfl (HLY.out _ hx.2)).trans ?_; with_reducible rfl
        try simp only [Act.put, List.setIfInBounds_toArray, List.set_cons_zero, List.set_cons_succ]
        refine takeA (i := 7) (v := ?_) rfl (by kernel_rfl) (fun _ _ _ h => h) rfl (by exact hI0) (fun wx hx => ?_) ?_
        rotate_left
        · go_simp; try with_reducible rfl
        try simp only [Act.put, List.setIfInBounds_toArray, List.set_cons_zero, List.set_cons_succ]
        refine runOne (i := 1) (by kernel_rfl) rfl rfl ?_
        go_simp
        refine (HALX.out w15.drew).mono ?_
        rintro e wa ⟨pa, ca, rfl, hSa, hBa⟩
        have hBwa := hBd.trans (hBa.mono hBd.size)
        have hXa := below_blk hBa (show w15.drew.heap[X]? = _ from hX15)
        have hYa := below_blk hBa (show w15.drew.heap[Y]? = _ from hY15)
        refine ⟨⟨⟨hXa, hYa⟩, fun _ => trivial⟩, ?_⟩
        refine strongA (A' := (fun w' => (w'.heap[X]? = some (.cells (pktC x (.slice p m.length cp)) 27 (0, 0)) ∧ w'.heap[Y]? = some (.cells (pktC y (.slice q n.length cq)) 27 (0, 0))) ∧ SL .u8 w' pa L1)) (fun _ h => h.1) ?_
        have hI1 : S1 (fun w' => (w'.heap[X]? = some (.cells (pktC x (.slice p m.length cp)) 27 (0, 0)) ∧ w'.heap[Y]? = some (.cells (pktC y (.slice q n.length cq)) 27 (0, 0))) ∧ SL .u8 w' pa L1) (fun _ => True) [true] wa := ⟨⟨⟨hXa, hYa⟩, hSa⟩, fun _ => trivial⟩
        try simp only [Act.put, List.setIfInBounds_toArray, List.set_cons_zero, List.set_cons_succ]
        refine takeA (i := 2) (v := ?_) rfl (by kernel_rfl) (fun _ _ _ h => h) rfl (by exact hI1) (fun wx hx => ?_) ?_
        rotate_left
        · refine (exec_conv (v := .slice pa L1.length ca) rfl rfl (run_str (P := Tryd.prog) (dst := 9) Tryd.underlying25 Tryd.underlying5 Tryd.underlying9 hx.2 _ _ rfl)).trans ?_; with_reducible rfl
        try simp only [Act.put, List.setIfInBounds_toArray, List.set_cons_zero, List.set_cons_succ]
        refine runOne (i := 4) (by kernel_rfl) rfl rfl ?_
        go_simp
        refine (HALY.out wa).mono ?_
        rintro e wb ⟨pb, cb, rfl, hSb, hBb⟩
        have hBwb := hBwa.trans (hBb.mono hBwa.size)
        have hXb := below_blk hBb hXa
        have hYb := below_blk hBb hYa
        have hSab := hSa.below hBb
        refine ⟨⟨⟨⟨hXb, hYb⟩, hSab⟩, fun _ => trivial⟩, ?_⟩
        refine strongA (A' := (fun w' => ((w'.heap[X]? = some (.cells (pktC x (.slice p m.length cp)) 27 (0, 0)) ∧ w'.heap[Y]? = some (.cells (pktC y (.slice q n.length cq)) 27 (0, 0))) ∧ SL .u8 w' pa L1) ∧ SL .u8 w' pb L2)) (fun _ h => h.1) ?_
        have hI2 : S1 (fun w' => ((w'.heap[X]? = some (.cells (pktC x (.slice p m.length cp)) 27 (0, 0)) ∧ w'.heap[Y]? = some (.cells (pktC y (.slice q n.length cq)) 27 (0, 0))) ∧ SL .u8 w' pa L1) ∧ SL .u8 w' pb L2) (fun _ => True) [true] wb := ⟨⟨⟨⟨hXb, hYb⟩, hSab⟩, hSb⟩, fun _ => trivial⟩
        try simp only [Act.put, List.setIfInBounds_toArray, List.set_cons_zero, List.set_cons_succ]
        refine takeA (i := 5) (v := ?_) rfl (by kernel_rfl) (fun _ _ _ h => h) rfl (by exact hI2) (fun wx hx => ?_) ?_
        rotate_left
        · refine (exec_conv (v := .slice pb L2.length cb) rfl rfl (run_str (P := Tryd.prog) (dst := 9) Tryd.underlying25 Tryd.underlying5 Tryd.underlying9 hx.2 _ _ rfl)).trans ?_; with_reducible rfl
        try simp only [Act.put, List.setIfInBounds_toArray, List.set_cons_zero, List.set_cons_succ]
        refine takeA (i := 6) (v := ?_) rfl (by kernel_rfl) (fun _ _ _ h => h) rfl (by exact hI2) (fun wx hx => ?_) ?_
        rotate_left
        · go_simp; try with_reducible rfl
        try simp only [Act.put, List.setIfInBounds_toArray, List.set_cons_zero, List.set_cons_succ]
        refine takeA (i := 8) (v := ?_) rfl (by kernel_rfl) (fun _ _ _ h => h) rfl (by exact hI2) (fun wx hx => ?_) ?_
        rotate_left
        · go_simp; try with_reducible rfl
        try simp only [Act.put, List.setIfInBounds_toArray, List.set_cons_zero, List.set_cons_succ]
        refine takeA (i := 9) (v := ?_) rfl (by kernel_rfl) (fun _ _ _ h => h) rfl (by exact hI2) (fun wx hx => ?_) ?_
        rotate_left
        · go_simp; try with_reducible rfl
        try simp only [Act.put, List.setIfInBounds_toArray, List.set_cons_zero, List.set_cons_succ]
        refine wpAnyE_done (by kernel_rfl) ?_ _
        go_wp2
        go_ret
        exact ⟨rfl, hBwb⟩
    · have d2 : (y.kind != 3) = true := bne_iff_ne.2 hky
      have d1 : (y.kind == 3) = false := beq_eq_false_iff_ne.2 hky
      clear hky
      go_wp2
      go_ret
      exact ⟨rfl, hB15⟩
  · have b1 : (x.kind == 1) = false := by rw [hk]; rfl
    have b2 : (x.kind == 2) = false := by rw [hk]; rfl
    have b3 : (x.kind == 3) = false := by rw [hk]; rfl
    have HK := Lib.hid hk
    clear hk
    go_quiet (fail)
    have hq10 : Below w10.heap.size w10 (w10.drewN nq) := below_drewN (Below.refl _ _) nq
    generalize w10.drewN nq = w11 at *
    have hX11 := below_blk hq10 hX10
    have hY11 := below_blk hq10 hY10
    have hA_11 := below_blk hq10 hA_10
    have hB_11 := below_blk hq10 hB_10
    have hC_11 := below_blk hq10 hC_10
    have hD_11 := below_blk hq10 hD_10
    have hB11 := hB10.trans (hq10.mono hB10.size)
    clear hq10 hX10 hY10 hA_10 hB_10 hC_10 hD_10 hB10
    go_wp2_with (first | (refine ld_row rfl (ty := 27) rfl rfl hA_11 Tryd.underlying27 rfl (by kernel_rfl) (pktC_size _ _) ?_) | (go_at_call 11; fail))
    refine (check_any { x with peer := 1 } (ok_peer1 hx) p m.length cp (by omega) _).mono ?_
    rintro e w12 ⟨rfl, hb12⟩
    have hX12 := below_blk hb12 hX11
    have hY12 := below_blk hb12 hY11
    have hB_12 := below_blk hb12 hB_11
    have hC_12 := below_blk hb12 hC_11
    have hD_12 := below_blk hb12 hD_11
    have hB12 := hB11.trans (hb12.mono hB11.size)
    have fA := fields_peer HCX.out
    obtain ⟨cA, hcA⟩ : ∃ c, c = checkS { x with peer := 1 } m.length := ⟨_, rfl⟩
    rw [← hcA] at fA ⊢
    have gA : (cA == 0) = false := by rw [fA, b1]
    clear fA hcA hX11 hY11 hB11 hb12 hA_11 hB_11 hC_11 hD_11
    have hlB := Lib.hid (HLD.out _ _ _ hB_12 (pktC_size _ _))
    go_wp2_with (first | (refine ld_g rfl (ty := 27) rfl (p := .pointer (some ⟨B, 0, none⟩)) rfl hlB.out ?_) | (go_at_call 11; fail))
    refine (check_any { x with count := 1 } (ok_count1 hx) p m.length cp (by omega) _).mono ?_
    rintro e w13 ⟨rfl, hb13⟩
    have hX13 := below_blk hb13 hX12
    have hY13 := below_blk hb13 hY12
    have hC_13 := below_blk hb13 hC_12
    have hD_13 := below_blk hb13 hD_12
    have hB13 := hB12.trans (hb13.mono hB12.size)
    have fB := fields_count HCX.out
    obtain ⟨cB, hcB⟩ : ∃ c, c = checkS { x with count := 1 } m.length := ⟨_, rfl⟩
    rw [← hcB] at fB ⊢
    have gB : (cB == 0) = false := by rw [fB, b3]
    clear fB hcB hX12 hY12 hB12 hb13 hB_12 hC_12 hD_12 hlB
    have hlC := Lib.hid (HLD.out _ _ _ hC_13 (pktC_size _ _))
    go_wp2_with (first | (refine ld_g rfl (ty := 27) rfl (p := .pointer (some ⟨C, 0, none⟩)) rfl hlC.out ?_) | (go_at_call 11; fail))
    refine (check_any { x with random := one16 } (ok_random1 hx) p m.length cp (by omega) _).mono ?_
    rintro e w14 ⟨rfl, hb14⟩
    have hX14 := below_blk hb14 hX13
    have hY14 := below_blk hb14 hY13
    have hD_14 := below_blk hb14 hD_13
    have hB14 := hB13.trans (hb14.mono hB13.size)
    have fC := fields_random HCX.out
    obtain ⟨cC, hcC⟩ : ∃ c, c = checkS { x with random := one16 } m.length := ⟨_, rfl⟩
    rw [← hcC] at fC ⊢
    have gC : (cC == 0) = false := by rw [fC, b1, b2]; rfl
    clear fC hcC hX13 hY13 hB13 hb14 hC_13 hD_13 hlC
    have hlD := Lib.hid (HLD.out _ _ _ hD_14 (pktC_size _ _))
    go_wp2_with (first | (refine ld_g rfl (ty := 27) rfl (p := .pointer (some ⟨D, 0, none⟩)) rfl hlD.out ?_) | (go_at_call 11; fail))
    refine (check_any x hx (some ⟨Z, 0, none⟩) 16 16 (by omega) _).mono ?_
    rintro e w15 ⟨rfl, hb15⟩
    have hX15 := below_blk hb15 hX14
    have hY15 := below_blk hb15 hY14
    have hB15 := hB14.trans (hb15.mono hB14.size)
    have fD := fields_body HCX.out
    obtain ⟨cD, hcD⟩ : ∃ c, c = checkS x 16 := ⟨_, rfl⟩
    rw [← hcD] at fD ⊢
    have gD : (cD == 0) = false := by rw [fD, b3]
    clear fD hcD hX14 hY14 hB14 hb15 hD_14 hlD
    go_wp2
    go_ret
    exact ⟨rfl, hB15⟩
end Go.Proofs.YtjieiijbgbkikaaDoor
end
