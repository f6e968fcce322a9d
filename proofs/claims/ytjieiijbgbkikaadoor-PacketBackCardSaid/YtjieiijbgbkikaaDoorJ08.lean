/- Lemmas of a proof over the given program, joined by wip/join.py: KSum KSumB KHmac. -/
import Derived.Test.YtjieiijbgbkikaaDoorJ02
import Derived.Test.YtjieiijbgbkikaaDoorJ07
import Derived.RegionTactic
set_option linter.unusedSimpArgs false
set_option linter.unusedVariables false
section
/- Package hkdf: Sum. -/
namespace Go.Proofs.YtjieiijbgbkikaaDoor
open Go Go.RowKit
set_option maxRecDepth 100000
attribute [local go_sem] cell?_eq frozen?_eq heap_setCell_eq heap_setCell_ne

/-- A sum in the making. -/
structure ShaT where
  s : List Int
  p : List Int
  n : Nat
def shaStep (x : ShaT) (c : Int) : ShaT :=
  ⟨if (x.n + 1) % 64 = 0 then shaS x.s (x.p.set (x.n % 64) c) else x.s, x.p.set (x.n % 64) c, x.n + 1⟩
def shaTake (x : ShaT) (l : List Int) : ShaT := l.foldl shaStep x
theorem shaTake_nil (x : ShaT) : shaTake x [] = x := rfl
theorem shaTake_snoc (x : ShaT) (l : List Int) (c : Int) : shaTake x (l ++ [c]) = shaStep (shaTake x l) c := by simp [shaTake]
theorem shaTake_append (x : ShaT) (l m : List Int) : shaTake x (l ++ m) = shaTake (shaTake x l) m := by simp [shaTake]
structure ShaT.Ok (x : ShaT) : Prop where
  s8 : x.s.length = 8
  p64 : x.p.length = 64
  bd : Bd 256 x.p
theorem ShaT.Ok.step {x : ShaT} (h : x.Ok) {c : Int} (h0 : 0 ≤ c) (h1 : c < 256) : (shaStep x c).Ok :=
  ⟨by unfold shaStep; dsimp only; split <;> simp [shaS_len, h.s8], by simp [shaStep, h.p64], h.bd.set _ _ h0 h1⟩
theorem ShaT.Ok.take {x : ShaT} (h : x.Ok) {l : List Int} (hl : Bd 256 l) : (shaTake x l).Ok := by
  have hm := hl.mem
  clear hl
  unfold shaTake
  induction l generalizing x with
  | nil => exact h
  | cons c l ih => exact ih (h.step (hm c (List.mem_cons_self ..)).1 (hm c (List.mem_cons_self ..)).2) (fun y hy => hm y (List.mem_cons_of_mem _ hy))
theorem shaTake_n (x : ShaT) (l : List Int) : (shaTake x l).n = x.n + l.length := by
  unfold shaTake
  induction l generalizing x with
  | nil => rfl
  | cons c l ih => rw [List.foldl_cons, ih]; simp [shaStep]; omega
theorem take_snoc_nth {l : List Int} {k : Nat} (h : k < l.length) : l.take (k + 1) = l.take k ++ [nth l k] := by
  rw [List.take_succ_eq_append_getElem h, nth_lt h]
attribute [irreducible] shaTake
/-- The three variables of a sum. -/
def ShaW (S P N : Nat) (x : ShaT) (w : World) : Prop :=
  w.heap[S]? = some (.cells (ints .u32 x.s) 158 (0, 0)) ∧ w.heap[P]? = some (.cells (ints .u8 x.p) 129 (0, 0)) ∧ w.heap[N]? = some (.cells #[.int .i64 (x.n : Int)] 2 (0, 0))
theorem ShaW.ne {S P N : Nat} {x : ShaT} {w : World} (h : ShaW S P N x w) : S ≠ P ∧ S ≠ N ∧ P ≠ N := by
  obtain ⟨h1, h2, h3⟩ := h
  refine ⟨?_, ?_, ?_⟩ <;> (rintro rfl; simp_all)
theorem Rnd.kep {S : Nat → Prop} {w w' : World} (h : Rnd w) (hk : Kep S w w') (hn : ¬ S 1) : Rnd w' := by
  obtain ⟨T, fr, h⟩ := h
  exact ⟨T, fr, hk.heap h hn⟩
set_option maxHeartbeats 4000000 in
theorem take_any (x : ShaT) (hx : x.Ok) (l : List Int) (hl : Bd 256 l) (hn : x.n + l.length ≤ 1099511627776) (S P N : Nat) (pp : Option Addr) (cap : Nat) (w : World) (hR : Rnd w) (hG : 1 ≠ S ∧ 1 ≠ P ∧ 1 ≠ N)
    (hW : ShaW S P N x w) (hS : SL .u8 w pp l) (hne : ∀ a, pp = some a → l ≠ [] → a.block ≠ S ∧ a.block ≠ P ∧ a.block ≠ N) :
    Calls Tryd.prog 107 #[.slice pp l.length cap, .pointer (some ⟨P, 0, none⟩), .pointer (some ⟨N, 0, none⟩), .pointer (some ⟨S, 0, none⟩)] w fun e w' =>
      e = .returned (.tuple #[]) ∧ ShaW S P N (shaTake x l) w' ∧ Kep (fun k => k = S ∨ k = P ∨ k = N) w w' := by
  go_enter Tryd.func107, Tryd.ntmps107
  go_wp2
  go_loopw [6, 9] (fun _ iv wr => ∃ k : Nat, k ≤ l.length ∧ iv = .int .i64 k ∧ ShaW S P N (shaTake x (l.take k)) wr ∧ Kep (fun k => k = S ∨ k = P ∨ k = N) w wr) (fun _ iv _ => l.length - (intOf iv).toNat)
  case atStart => exact ⟨0, by omega, rfl, by rw [List.take_zero, shaTake_nil]; exact hW, Kep.refl _ _⟩
  case round =>
    clear hW
    obtain ⟨k, hk, rfl, hW, hK⟩ := hrel
    have hyo := hx.take (hl.take (by decide) k)
    have hyn := shaTake_n x (l.take k)
    rw [List.length_take, Nat.min_eq_left hk] at hyn
    by_cases hlt : k < l.length
    · have hsn := take_snoc_nth hlt
      have hst : shaTake x (l.take (k + 1)) = shaStep (shaTake x (l.take k)) (nth l k) := by rw [hsn, shaTake_snoc]
      obtain ⟨y, hy⟩ : ∃ y, y = shaTake x (l.take k) := ⟨_, rfl⟩
      rw [← hy] at hW hyo hyn hst
      obtain ⟨ys, yp, yn⟩ := y
      obtain ⟨hy8, hy64, hyB⟩ := hyo
      obtain ⟨hW1, hW2, hW3⟩ := hW
      dsimp only at hW1 hW2 hW3 hy8 hy64 hyB hyn
      obtain ⟨d1, d2, d3⟩ := ShaW.ne (x := ⟨ys, yp, yn⟩) ⟨hW1, hW2, hW3⟩
      have d1' := d1.symm
      have d2' := d2.symm
      have d3' := d3.symm
      have hyn' : yn ≤ 1099511627776 := by omega
      have HST := Lib.hid hst
      have HY := Lib.hid hy
      have HYN := Lib.hid hyn
      clear hst hy hyn hsn
      obtain ⟨b, off, rfl, hcell⟩ := hS.open hlt
      have hb := hne _ rfl (by intro h; rw [h] at hlt; simp at hlt)
      have hcw : wr.heap[b]? = w.heap[b]? := hK.block b (World.block_lt_of_cell? w ⟨b, off + k, none⟩ (hcell k hlt)) (by simpa using hb)
      have hc1 : wr.cell? ⟨b, off + k, none⟩ = some (.int .u8 (nth l k)) := (World.cell?_of_block (a := ⟨b, off + k, none⟩) hcw).trans (hcell k hlt)
      have hc2 := hc1
      rw [cell?_eq] at hc2
      have c0 := (hl k).1
      have c1 := (hl k).2
      have i0 : (k : Int) < (l.length : Int) := by omega
      have i1 : (0 : Int) ≤ (yn : Int) % 64 := by omega
      have i2 : (yn : Int) % 64 < 64 := by omega
      have i3 : ((yn : Int) % 64).toNat = yn % 64 := by omega
      have i4 : yn % 64 < 64 := by omega
      clear hcell hcw
      by_cases h64 : (yn + 1) % 64 = 0
      · have g1 : (((yn : Int) + 1) % 64 == 0) = true := beq_iff_eq.2 (by omega)
        have H64 := Lib.hid h64; clear h64
        have hpl : (yp.set (yn % 64) (nth l k)).length = 64 := by rw [List.length_set]; exact hy64
        have hpB := hyB.set (yn % 64) (nth l k) c0 c1
        have hP5 : ∀ v, ((wr.setCell ⟨P, yn % 64, none⟩ (.int .u8 (nth l k))).setCell ⟨N, 0, none⟩ v).heap[P]? = some (.cells (ints .u8 (yp.set (yn % 64) (nth l k))) 129 (0, 0)) := fun v => by rw [heap_setCell_ne' _ _ _ _ _ d3, heap_setCell_eq, hW2, putOf_some, set_ints]
        have hS5' : ∀ v, ((wr.setCell ⟨P, yn % 64, none⟩ (.int .u8 (nth l k))).setCell ⟨N, 0, none⟩ v).heap[S]? = some (.cells (ints .u32 ys) 158 (0, 0)) := fun v => by rw [heap_setCell_ne' _ _ _ _ _ d2, heap_setCell_ne' _ _ _ _ _ d1, hW1]
        have hN5 : ∀ v, ((wr.setCell ⟨P, yn % 64, none⟩ (.int .u8 (nth l k))).setCell ⟨N, 0, none⟩ (.int .i64 v)).heap[N]? = some (.cells #[.int .i64 v] 2 (0, 0)) := fun v => by rw [heap_setCell_eq, heap_setCell_ne' _ _ _ _ _ d3', hW3]; rfl
        have hK5 := fun v => (hK.setCell (g := P) (o := yn % 64) (.inl (.inr (.inl rfl))) (.int .u8 (nth l k))).setCell (g := N) (o := 0) (.inl (.inr (.inr rfl))) v
        have hR5 := fun v => Rnd.kep hR (hK5 v) (by simpa using hG)
        have HP := Lib.hid hP5
        clear hP5
        go_wp2_with (refine ld_ints rfl (ty := 129) rfl rfl (by exact HP.out _) Tryd.underlying129 (by kernel_rfl) hpl ?_)
        refine (sblock_any ys _ hy8 hpl hpB S _ (by exact hR5 _) (by exact hS5' _)).mono ?_
        rintro e w5 ⟨rfl, hS6, hK6⟩
        have hP6 := hK6.heap (HP.out _) d1'
        have hN6 := hK6.heap (hN5 _) d2'
        have hK7 := (hK5 (.int .i64 ((yn : Int) + 1))).then hK6 (fun i _ h => .inl h)
        clear hS5' hN5 hK5 hR5 hK6
        go_wp2
        go_roundw
        case rel =>
          refine ⟨k + 1, by omega, by go_num, ?_, hK7⟩
          rw [HST.out]
          unfold shaStep
          rw [if_pos H64.out]
          exact ⟨hS6, hP6, by rw [hN6]; simp⟩
        case measure => simp [intOf]; omega
      · have g1 : (((yn : Int) + 1) % 64 == 0) = false := beq_eq_false_iff_ne.2 (by omega)
        have H64 := Lib.hid h64; clear h64
        have hP5 : ∀ v, ((wr.setCell ⟨P, yn % 64, none⟩ (.int .u8 (nth l k))).setCell ⟨N, 0, none⟩ v).heap[P]? = some (.cells (ints .u8 (yp.set (yn % 64) (nth l k))) 129 (0, 0)) := fun v => by rw [heap_setCell_ne' _ _ _ _ _ d3, heap_setCell_eq, hW2, putOf_some, set_ints]
        have hS5' : ∀ v, ((wr.setCell ⟨P, yn % 64, none⟩ (.int .u8 (nth l k))).setCell ⟨N, 0, none⟩ v).heap[S]? = some (.cells (ints .u32 ys) 158 (0, 0)) := fun v => by rw [heap_setCell_ne' _ _ _ _ _ d2, heap_setCell_ne' _ _ _ _ _ d1, hW1]
        have hN5 : ∀ v, ((wr.setCell ⟨P, yn % 64, none⟩ (.int .u8 (nth l k))).setCell ⟨N, 0, none⟩ (.int .i64 v)).heap[N]? = some (.cells #[.int .i64 v] 2 (0, 0)) := fun v => by rw [heap_setCell_eq, heap_setCell_ne' _ _ _ _ _ d3', hW3]; rfl
        have hK5 := fun v => (hK.setCell (g := P) (o := yn % 64) (.inl (.inr (.inl rfl))) (.int .u8 (nth l k))).setCell (g := N) (o := 0) (.inl (.inr (.inr rfl))) v
        have HP := Lib.hid hP5
        have HS5 := Lib.hid hS5'
        have HN5 := Lib.hid hN5
        clear hP5 hS5' hN5
        go_wp2
        go_roundw
        case rel =>
          refine ⟨k + 1, by omega, by go_num, ?_, by exact hK5 _⟩
          rw [HST.out]
          unfold shaStep
          rw [if_neg H64.out]
          exact ⟨HS5.out _, HP.out _, (HN5.out _).trans (by simp)⟩
        case measure => simp [intOf]; omega
    · have Hk := Lib.hid (show k = l.length by omega)
      have g0 : (l.length : Int) ≤ (k : Int) := by omega
      go_wp2
      go_end0
      refine ⟨rfl, ?_, hK⟩
      rw [Hk.out, List.take_length] at hW
      exact hW
end Go.Proofs.YtjieiijbgbkikaaDoor
end
section
/- Package hkdf: Sum, whole. -/
namespace Go.Proofs.YtjieiijbgbkikaaDoor
open Go Go.RowKit
set_option maxRecDepth 100000
attribute [local go_sem] cell?_eq frozen?_eq heap_setCell_eq heap_setCell_ne

section
variable {P : Program} {ops : Array Oper} {rest : List Oper} {o : Oper} {a : Act} {w : World} {Q : Exit → Act → World → Prop}
/-- A new variable of an integer type. -/
theorem al_int (hgd : o.guard = none) {T : TypeId} (ho : o.op = .alloc T) {k : IntKind} (hz : (P.info? T).map (·.zero) = some (some (.int k 0)))
    (h : wpList P ops Q rest (a.put o.dst (.pointer (some ⟨w.heap.size, 0, none⟩))) (w.alloc (.cells (ints k [0]) T))) : wpList P ops Q (o :: rest) a w := by
  refine wpList_plain hgd fun K hK => ?_
  cases hq : P.info? T with
  | none => simp [hq] at hz
  | some i =>
    have hz' : i.zero = some (.int k 0) := by simpa [hq] using hz
    unfold Oper.wp execOp
    simp only [ho]
    simp [Instr.alloc, zeroValue, typeInfo, hq, hz', newVar, newRow, newObj, Sem.run, Value.cells]
    exact hK _ _ h
end
def shaInit : ShaT := ⟨[1779033703, 3144134277, 1013904242, 2773480762, 1359893119, 2600822924, 528734635, 1541459225], zerosL 64, 0⟩
theorem shaInit_ok : shaInit.Ok := ⟨rfl, zerosL_len 64, Bd.zerosL (by decide) _⟩
def houtTo (s : List Int) : Nat → List Int
  | 0 => zerosL 32
  | k + 1 => ((((houtTo s k).set (4 * k) (nth s k / 16777216 % 256)).set (4 * k + 1) (nth s k / 65536 % 256)).set (4 * k + 2) (nth s k / 256 % 256)).set (4 * k + 3) (nth s k % 256)
theorem houtTo_zero (s : List Int) : houtTo s 0 = zerosL 32 := rfl
theorem houtTo_succ (s : List Int) (k : Nat) : houtTo s (k + 1) = ((((houtTo s k).set (4 * k) (nth s k / 16777216 % 256)).set (4 * k + 1) (nth s k / 65536 % 256)).set (4 * k + 2) (nth s k / 256 % 256)).set (4 * k + 3) (nth s k % 256) := rfl
theorem houtTo_len (s : List Int) (k : Nat) : (houtTo s k).length = 32 := by induction k <;> simp [houtTo, zerosL_len, *]
theorem houtTo_bd (s : List Int) (k : Nat) : Bd 256 (houtTo s k) := by
  induction k with
  | zero => exact Bd.zerosL (by decide) _
  | succ k ih => exact (((ih.set _ _ (by omega) (by omega)).set _ _ (by omega) (by omega)).set _ _ (by omega) (by omega)).set _ _ (by omega) (by omega)
attribute [irreducible] houtTo
/-- The sum of bytes. -/
def sumS (l : List Int) : List Int :=
  houtTo (shaTake (shaTake shaInit l) (hpadS (shaTake shaInit l).n)).s 8
theorem sumS_len (l : List Int) : (sumS l).length = 32 := houtTo_len _ _
theorem sumS_bd (l : List Int) : Bd 256 (sumS l) := houtTo_bd _ _
theorem flat_snoc {ls : List (List Int)} {i : Nat} {l : List Int} (h : ls[i]? = some l) : (ls.take (i + 1)).flatten = (ls.take i).flatten ++ l := by
  rw [List.take_add_one, h]; simp
theorem flat_le {ls : List (List Int)} (i : Nat) : ((ls.take i).flatten).length ≤ ls.flatten.length := by
  conv => rhs; rw [← List.take_append_drop i ls]
  rw [List.flatten_append, List.length_append]; omega
theorem Bd.flat {m : Int} {ls : List (List Int)} (h : Bd m ls.flatten) (i : Nat) : Bd m (ls.take i).flatten := by
  have e : ls.flatten = (ls.take i).flatten ++ (ls.drop i).flatten := by rw [← List.flatten_append, List.take_append_drop]
  rw [e] at h
  intro j
  by_cases hj : j < (ls.take i).flatten.length
  · have := h j; rwa [nth_append_lt hj] at this
  · rw [nth_ge (by omega)]; have := h 0; omega
theorem Bd.of_flat {m : Int} {ls : List (List Int)} (h : Bd m ls.flatten) {i : Nat} {l : List Int} (hl : ls[i]? = some l) : Bd m l := by
  have h1 := h.flat (i + 1)
  rw [flat_snoc hl] at h1
  have h2 := h1.drop (by have := h 0; omega) (ls.take i).flatten.length
  rwa [List.drop_left] at h2
set_option maxHeartbeats 8000000 in
theorem sum_any (ls : List (List Int)) (hB : Bd 256 ls.flatten) (h0 : 0 < ls.flatten.length) (h1 : ls.flatten.length ≤ 1073741824) (hlen : ls.length ≤ 1048576) (vs : List Value) (q : Option Addr) (cap : Nat) (w : World) (hR : Rnd w) (hV : SV w q vs) (hL : SLs w vs ls) :
    Calls Tryd.prog 104 #[.slice q ls.length cap] w fun e w' => e = .returned (.agg (ints .u8 (sumS ls.flatten))) ∧ Below w.heap.size w w' := by
  have hRlt := Lib.hid hR.lt
  go_enter Tryd.func104, Tryd.ntmps104
  go_wp2_with (first | (refine al_row rfl (T := 31) rfl (cs := ints .u8 (zerosL 32)) (by kernel_rfl) ?_) | (refine al_row rfl (T := 129) rfl (cs := ints .u8 (zerosL 64)) (by kernel_rfl) ?_) | (refine al_row rfl (T := 158) rfl (cs := ints .u32 (zerosL 8)) (by kernel_rfl) ?_) | (refine st_row (n := 8) (cs := ints .u32 [_, _, _, _, _, _, _, _]) rfl (ty := 158) rfl rfl rfl (by exact heap_alloc_at _ _ _ rfl) (by kernel_rfl) (by rw [size_ints, zerosL_len]) (by rw [size_ints]; rfl) (oneCell_ints _ _) ?_; rw [setRow_alloc_at _ _ _ _ _ rfl]) | (refine al_int rfl (T := 2) rfl (k := .i64) (by kernel_rfl) ?_) | (refine st_int (k := .i64) (l := [0]) (v := 0) rfl (ty := 2) rfl rfl rfl (by kernel_rfl) (by exact heap_alloc_at _ _ _ rfl) (by decide) ?_; rw [setRow_alloc_at _ _ _ _ _ rfl]))
  have hW0 : ShaW (w.heap.size + 1) (w.heap.size + 1 + 1) (w.heap.size + 1 + 1 + 1) shaInit ((((w.alloc (.cells (ints .u8 (zerosL 32)) 31)).alloc (.cells (ints .u32 [1779033703, 3144134277, 1013904242, 2773480762, 1359893119, 2600822924, 528734635, 1541459225]) 158)).alloc (.cells (ints .u8 (zerosL 64)) 129)).alloc (.cells (ints .i64 [0]) 2)) := ⟨blk4_1 _ _ _ _ _, blk4_2 _ _ _ _ _, blk4_3 _ _ _ _ _⟩
  have hB0 : Below w.heap.size w ((((w.alloc (.cells (ints .u8 (zerosL 32)) 31)).alloc (.cells (ints .u32 [1779033703, 3144134277, 1013904242, 2773480762, 1359893119, 2600822924, 528734635, 1541459225]) 158)).alloc (.cells (ints .u8 (zerosL 64)) 129)).alloc (.cells (ints .i64 [0]) 2)) := ((((Below.refl _ w).alloc (Nat.le_refl _) _).alloc (by simp) _).alloc (by simp; omega) _).alloc (by simp; omega) _
  have HW0 := Lib.hid hW0; clear hW0
  go_loopw [8, 15] (fun _ iv wr => ∃ i : Nat, i ≤ ls.length ∧ iv = .int .i64 i ∧ ShaW (w.heap.size + 1) (w.heap.size + 1 + 1) (w.heap.size + 1 + 1 + 1) (shaTake shaInit (ls.take i).flatten) wr ∧ wr.heap[w.heap.size]? = some (.cells (ints .u8 (zerosL 32)) 31 (0, 0)) ∧ Below w.heap.size w wr ∧ w.heap.size + 4 ≤ wr.heap.size) (fun _ iv _ => ls.length - (intOf iv).toNat)
  case atStart => exact ⟨0, by omega, rfl, by rw [List.take_zero, List.flatten_nil, shaTake_nil]; exact HW0.out, by exact blk4_0 _ _ _ _ _, hB0, by simp⟩
  case round =>
    clear HW0 hB0
    obtain ⟨i, hi, rfl, hW, hO, hBw, hZ⟩ := hrel
    have hfl := flat_le (ls := ls) i
    have hyo := shaInit_ok.take (hB.flat i)
    have hyn := shaTake_n shaInit (ls.take i).flatten
    have HW := Lib.hid hW; clear hW
    have HYN := Lib.hid hyn; clear hyn
    have HO := Lib.hid hO; clear hO
    by_cases hlt : i < ls.length
    · obtain ⟨l, hl⟩ : ∃ l, ls[i]? = some l := ⟨_, List.getElem?_eq_getElem hlt⟩
      obtain ⟨pi, ci, hv, hSl, _⟩ := hL.2 i l hl
      have hlB := hB.of_flat hl
      have hfs := flat_snoc hl
      have hfl2 := flat_le (ls := ls) (i + 1)
      have hfl3 : (ls.take i).flatten.length + l.length ≤ ls.flatten.length := by rw [hfs, List.length_append] at hfl2; exact hfl2
      rcases hV with hV | ⟨b, off, rfl, hV⟩
      · rw [hV] at hv; simp at hv
      have hcw := hV i _ hv
      have hcx : wr.cell? ⟨b, off + i, none⟩ = some (.slice pi l.length ci) := (hBw.cell (p := ⟨b, off + i, none⟩) (World.block_lt_of_cell? w ⟨b, off + i, none⟩ hcw)).trans hcw
      have hcy := hcx
      rw [cell?_eq] at hcy
      have HFS := Lib.hid hfs
      have HHL := Lib.hid hl
      clear hcw hfs hl hv hfl2
      have hct := fun wx hR hW hS hne => take_any (shaTake shaInit (ls.take i).flatten) hyo l hlB (by rw [HYN.out]; show 0 + _ + _ ≤ _; omega) (w.heap.size + 1) (w.heap.size + 1 + 1) (w.heap.size + 1 + 1 + 1) pi ci wx hR (by have := hRlt.out; omega) hW hS hne
      have HCT := Lib.hid hct; clear hct
      go_wp2_with (go_at_call 107; fail)
      refine (HCT.out _ (hR.below hBw hRlt.out) HW.out (hSl.below hBw) (fun a ha hn => by have := hSl.lt hn a ha; omega)).mono ?_
      rintro e w2 ⟨rfl, hW2, hK2⟩
      go_wp2
      go_roundw
      case rel =>
        refine ⟨i + 1, by omega, by go_num, by rw [HFS.out, shaTake_append]; exact hW2, hK2.heap HO.out (by omega), hK2.below hBw (by omega) (by omega), by have := hK2.size; omega⟩
      case measure => simp [intOf]; omega
    · have Hi := Lib.hid (show i = ls.length by omega)
      have g0 : (ls.length : Int) ≤ (i : Int) := by omega
      rw [Hi.out, List.take_length] at HW hyo HYN
      obtain ⟨X, hX⟩ : ∃ X, X = shaTake shaInit ls.flatten := ⟨_, rfl⟩
      rw [← hX] at HW hyo HYN
      have HX := Lib.hid hX; clear hX
      have hXn : X.n = ls.flatten.length := by rw [HYN.out]; show 0 + _ = _; omega
      have hX0 : 0 < (X.n : Int) := by omega
      have hX1 : (X.n : Int) ≤ 1073741824 := by omega
      have HXn := Lib.hid hXn; clear hXn
      have hN := HW.out.2.2
      have hNx : cellOf (wr.heap[w.heap.size + 1 + 1 + 1]?) 0 = some (.int .i64 (X.n : Int)) := by rw [hN]; rfl
      clear hN
      go_wp2_with (go_at_call 109; refine (pad_any _ hX0 (by omega) _).mono ?_; rintro e w2 ⟨v2, rfl, hO2, hB2⟩)
      obtain ⟨p2, c2, rfl, hS2, hc2⟩ := hO2.form
      have hblk := Lib.hid hO2.lt
      clear hNx
      have hpl := hpadS_len (X.n : Int)
      have hpz := padZ_le (X.n : Int)
      have hW2 : ShaW (w.heap.size + 1) (w.heap.size + 1 + 1) (w.heap.size + 1 + 1 + 1) X w2 :=
        ⟨below_block hB2 HW.out.1 (by omega), below_block hB2 HW.out.2.1 (by omega), below_block hB2 HW.out.2.2 (by omega)⟩
      refine (take_any X hyo (hpadS (X.n : Int)) (hpadS_bd _) (by rw [hpl]; omega) (w.heap.size + 1) (w.heap.size + 1 + 1) (w.heap.size + 1 + 1 + 1) p2 c2 w2 ((hR.below hBw hRlt.out).below hB2 (by have := hRlt.out; omega)) (by have := hRlt.out; omega) hW2 hS2 (fun a ha hn => ?_)).mono ?_
      · subst ha
        rcases hO2.cases with ⟨e, _⟩ | ⟨g, c, e, _, _, hg⟩
        · cases e
        · cases e
          simp only
          omega
      rintro e w3 ⟨rfl, hW3, hK3⟩
      have hO3 := hK3.heap (below_block hB2 HO.out (by omega)) (by omega)
      have hB3 := hK3.below (hBw.trans (hB2.mono (by omega))) (by have := hB2.size; omega) (by omega)
      have hSok := (hyo.take (hpadS_bd (X.n : Int))).s8
      have HW3 := hW3.1
      obtain ⟨Y, hY⟩ : ∃ Y, Y = (shaTake X (hpadS (X.n : Int))).s := ⟨_, rfl⟩
      rw [← hY] at HW3 hSok
      have HY := Lib.hid hY
      clear hY hW3 hK3 hW2 hS2 hc2 hblk hO2 hB2 hpl hpz HO HW HYN hBw
      go_wp2_with (refine ld_ints rfl (ty := 158) rfl rfl (by exact HW3) Tryd.underlying158 (by kernel_rfl) hSok ?_)
      go_loopw [9, 10, 28] (fun _ _ iv wx => ∃ j : Nat, j ≤ 8 ∧ iv = .int .i64 j ∧ wx.heap[w.heap.size]? = some (.cells (ints .u8 (houtTo Y j)) 31 (0, 0)) ∧ Below w.heap.size w wx) (fun _ _ iv _ => 8 - (intOf iv).toNat)
      case atStart => exact ⟨0, by omega, rfl, by rw [houtTo_zero]; exact hO3, hB3⟩
      case round =>
        clear hO3 hB3 HW3
        obtain ⟨j, hj, rfl, hO, hBx⟩ := hrel
        have hol := houtTo_len Y j
        by_cases hj8 : j < 8
        · have hix := fun wx => run_index_ints (P := Tryd.prog) (k := .u32) (T := 158) Tryd.underlying158 Tryd.underlying23 (by kernel_rfl) Y j hj8 (by rw [hSok]; exact hj8) wx
          have j2 : (j : Int) < 8 := by omega
          have b0 : (4 : Int) * ↑j < 32 := by omega
          have b1 : (4 : Int) * ↑j + 1 < 32 := by omega
          have b2 : (4 : Int) * ↑j + 2 < 32 := by omega
          have b3 : (4 : Int) * ↑j + 3 < 32 := by omega
          have n0 : 4 * j < 32 := by omega
          have n1 : 4 * j + 1 < 32 := by omega
          have n2 : 4 * j + 2 < 32 := by omega
          have n3 : 4 * j + 3 < 32 := by omega
          have a0 : (0 : Int) ≤ 4 * ↑j := by omega
          have a1 : (0 : Int) ≤ 4 * ↑j + 1 := by omega
          have a2 : (0 : Int) ≤ 4 * ↑j + 2 := by omega
          have a3 : (0 : Int) ≤ 4 * ↑j + 3 := by omega
          go_wp2
          go_roundw
          case rel =>
            refine ⟨j + 1, by omega, by go_num, ?_, (((hBx.setCell (by simp) _).setCell (by simp) _).setCell (by simp) _).setCell (by simp) _⟩
            simp only [heap_setCell_eq, hO, putOf_some, set_ints]
            rw [houtTo_succ]
          case measure => simp [intOf]; omega
        · have Hj := Lib.hid (show j = 8 by omega)
          go_wp2_with (first | (refine ld_ints rfl (ty := 31) rfl rfl (by exact hO) Tryd.underlying31 (by kernel_rfl) hol ?_) | (refine st_row (n := 32) rfl (ty := 31) rfl rfl rfl (by exact hO) (by kernel_rfl) (by rw [size_ints, hol]) (by rw [size_ints, hol]) (oneCell_ints _ _) ?_))
          refine end_row (n := 32) rfl rfl (setRow_heap _ _ _ _ 31 (0,0) (by exact hO)) Tryd.underlying31 rfl (by kernel_rfl) (by rw [size_ints, hol]) rfl ⟨?_, belowRow hBx (by omega) _⟩
          rw [sumS, ← HX.out, ← HY.out, Hj.out]
attribute [irreducible] sumS
end Go.Proofs.YtjieiijbgbkikaaDoor
end
section
/- Package hkdf: Mac. -/
namespace Go.Proofs.YtjieiijbgbkikaaDoor
open Go Go.RowKit
set_option maxRecDepth 100000
attribute [local go_sem] cell?_eq frozen?_eq heap_setCell_eq heap_setCell_ne

/-- The first m bytes, each with c. -/
def padXTo (k : List Int) (c : Int) : Nat → List Int
  | 0 => k
  | m + 1 => (padXTo k c m).set m (bits .xor .u8 (nth (padXTo k c m) m) c)
theorem padXTo_zero (k : List Int) (c : Int) : padXTo k c 0 = k := rfl
theorem padXTo_succ (k : List Int) (c : Int) (m : Nat) : padXTo k c (m + 1) = (padXTo k c m).set m (bits .xor .u8 (nth (padXTo k c m) m) c) := rfl
theorem padXTo_len (k : List Int) (c : Int) (m : Nat) : (padXTo k c m).length = k.length := by induction m <;> simp [padXTo, *]
theorem padXTo_bd {k : List Int} (h : Bd 256 k) (c : Int) (m : Nat) : Bd 256 (padXTo k c m) := by
  induction m with
  | zero => exact h
  | succ m ih => exact ih.set _ _ (bits_u8_bd ..).1 (bits_u8_bd ..).2
attribute [irreducible] padXTo
def keyPad (key : List Int) : List Int := overL (zerosL 64) 0 key
theorem keyPad_len {key : List Int} (h : key.length ≤ 64) : (keyPad key).length = 64 := by unfold keyPad; rw [overL_len (by rw [zerosL_len]; omega), zerosL_len]
theorem keyPad_bd {key : List Int} (h : Bd 256 key) : Bd 256 (keyPad key) := by unfold keyPad; exact Bd.overL (by decide) (Bd.zerosL (by decide) _) _ h
def hmacS (key l : List Int) : List Int := sumS (padXTo (keyPad key) 92 64 ++ sumS (padXTo (keyPad key) 54 64 ++ l))
theorem hmacS_len (key l : List Int) : (hmacS key l).length = 32 := sumS_len _
theorem hmacS_bd (key l : List Int) : Bd 256 (hmacS key l) := sumS_bd _
attribute [irreducible] keyPad
set_option maxHeartbeats 8000000 in
theorem hmac_any (key : List Int) (hk : key.length ≤ 64) (hkB : Bd 256 key) (ls : List (List Int)) (hB : Bd 256 ls.flatten) (h1 : ls.flatten.length ≤ 536870912) (hlen : ls.length ≤ 1000) (vs : List Value) (kp q : Option Addr) (kc cap : Nat) (w : World) (hR : Rnd w) (hK : SL .u8 w kp key)
    (hV : SV w q vs) (hL : SLs w vs ls) :
    Calls Tryd.prog 97 #[.slice kp key.length kc, .slice q ls.length cap] w fun e w' => e = .returned (.agg (ints .u8 (hmacS key ls.flatten))) ∧ Below w.heap.size w w' := by
  have hRlt := Lib.hid hR.lt
  have g0 : (key.length : Int) ≤ 64 := by omega
  have hmk : ∀ wx, (Instr.makeSlice 25 (.int .i64 64) (.int .i64 64)).run Tryd.prog wx = .ok (.slice (some ⟨wx.heap.size, 0, none⟩) 64 64) (wx.alloc (.cells (ints .u8 (zerosL 64)) 5)) := fun wx =>
    run_make_ints (P := Tryd.prog) (T := 25) (k := .u8) (by' := 1) Tryd.underlying25 (E := 5) (by kernel_rfl) 64 (by omega) (by omega) wx
  go_enter Tryd.func97, Tryd.ntmps97
  go_wp2_with (first | (refine al_row rfl (T := 31) rfl (cs := ints .u8 (zerosL 32)) (by kernel_rfl) ?_))
  go_region
  · have hE := blk3_0 w (.cells (ints .u8 (zerosL 32)) 31) (.cells (ints .u8 (zerosL 64)) 5) (.cells (ints .u8 (zerosL 64)) 5)
    have hI := blk3_1 w (.cells (ints .u8 (zerosL 32)) 31) (.cells (ints .u8 (zerosL 64)) 5) (.cells (ints .u8 (zerosL 64)) 5)
    have hJ := blk3_2 w (.cells (ints .u8 (zerosL 32)) 31) (.cells (ints .u8 (zerosL 64)) 5) (.cells (ints .u8 (zerosL 64)) 5)
    have hBw : Below w.heap.size w ((((w.alloc (.cells (ints .u8 (zerosL 32)) 31)).alloc (.cells (ints .u8 (zerosL 64)) 5)).alloc (.cells (ints .u8 (zerosL 64)) 5)).drew) := ((((Below.refl _ w).alloc (Nat.le_refl _) _).alloc (by simp) _).alloc (by simp; omega) _).drew
    have hz : w.heap.size + 3 ≤ ((((w.alloc (.cells (ints .u8 (zerosL 32)) 31)).alloc (.cells (ints .u8 (zerosL 64)) 5)).alloc (.cells (ints .u8 (zerosL 64)) 5)).drew).heap.size := by simp
    generalize hW : (((w.alloc (.cells (ints .u8 (zerosL 32)) 31)).alloc (.cells (ints .u8 (zerosL 64)) 5)).alloc (.cells (ints .u8 (zerosL 64)) 5)).drew = W at *
    have hWh : W.heap = (((w.alloc (.cells (ints .u8 (zerosL 32)) 31)).alloc (.cells (ints .u8 (zerosL 64)) 5)).alloc (.cells (ints .u8 (zerosL 64)) 5)).heap := by rw [← hW]; rfl
    rw [← hWh] at hE hI hJ
    clear hW hWh
    obtain ⟨J, hb2⟩ : ∃ b, b = w.heap.size + 1 + 1 := ⟨_, rfl⟩
    obtain ⟨I, hb1⟩ : ∃ b, b = w.heap.size + 1 := ⟨_, rfl⟩
    rw [← hb2] at hJ ⊢
    rw [← hb1] at hI ⊢
    have hIJ : I ≠ J := by omega
    have hI0 : w.heap.size < I := by omega
    have hJ0 : w.heap.size < J := by omega
    have hIx : I < w.heap.size + 3 := by omega
    have hJx : J < w.heap.size + 3 := by omega
    clear hb1 hb2
    have hkpl := keyPad_len hk
    have hm64 : key.length = min key.length 64 := by omega
    have htk : key.take key.length = key := List.take_length ..
    have HM := Lib.hid hm64
    have HTK := Lib.hid htk
    clear hm64 htk
    have hKW := hK.below hBw
    have hzR : ∀ k, overC (ints .u8 (zerosL 64)) 0 (ints .u8 (key.take key.length)) = k → k = ints .u8 (keyPad key) := fun k e => by rw [← e, overC_ints, HTK.out]; unfold keyPad; rfl
    have HZR := Lib.hid hzR
    clear hzR
    go_wp2_with (first | (refine cp_seg rfl rfl Tryd.underlying25 (by kernel_rfl) (g := I) (off := 0) (n := key.length) (k := .u8) (src := key) (cs := ints .u8 (zerosL 64)) rfl rfl (by exact hI) (by exact hKW) rfl HM.out (by rw [size_ints, zerosL_len]; omega) ?_; intro wa hIa hoa hza hBa; rw [HZR.out _ rfl] at hIa; have hJa := (hoa J (Ne.symm hIJ)).trans hJ; have hEa := (hoa w.heap.size (by omega)).trans hE; have hBwa := hBa _ _ hBw (by omega); have hKa := hK.below hBwa; clear hoa hBa) | (refine cp_seg rfl rfl Tryd.underlying25 (by kernel_rfl) (g := J) (off := 0) (n := key.length) (k := .u8) (src := key) (cs := ints .u8 (zerosL 64)) rfl rfl (by exact hJa) (by exact hKa) rfl HM.out (by rw [size_ints, zerosL_len]; omega) ?_; intro wb hJb hob hzb hBb; rw [HZR.out _ rfl] at hJb; have hIb := (hob I hIJ).trans hIa; have hEb := (hob w.heap.size (by omega)).trans hEa; have hBwb := hBb _ _ hBwa (by omega); clear hob hBb))
    have hzb' : w.heap.size + 3 ≤ wb.heap.size := by omega
    clear hI hJ hE hIa hJa hEa hKa hKW hBwa hza hzb hBw hz
    go_loopw [8, 25] (fun _ iv wr => ∃ m : Nat, m ≤ 64 ∧ iv = .int .i64 m ∧ wr.heap[I]? = some (.cells (ints .u8 (padXTo (keyPad key) 54 m)) 5 (0, 0)) ∧ wr.heap[J]? = some (.cells (ints .u8 (padXTo (keyPad key) 92 m)) 5 (0, 0)) ∧ wr.heap[w.heap.size]? = some (.cells (ints .u8 (zerosL 32)) 31 (0, 0)) ∧ Below w.heap.size w wr ∧ w.heap.size + 3 ≤ wr.heap.size) (fun _ iv _ => 64 - (intOf iv).toNat)
    case atStart => exact ⟨0, by omega, rfl, by rw [padXTo_zero]; exact hIb, by rw [padXTo_zero]; exact hJb, hEb, hBwb, hzb'⟩
    case round =>
      clear hIb hJb hEb hBwb hzb'
      obtain ⟨m, hm, rfl, hI, hJ, hE, hBw, hz⟩ := hrel
      have hil := padXTo_len (keyPad key) 54 m
      have hjl := padXTo_len (keyPad key) 92 m
      rw [hkpl] at hil hjl
      have hJI := hIJ.symm
      by_cases hm64 : m < 64
      · have m1 : (m : Int) < 64 := by omega
        go_wp2
        go_roundw
        case rel =>
          refine ⟨m + 1, by omega, by go_num, by rw [padXTo_succ]; exact (by simp (disch := (first | omega | (simp only [World.size_alloc, World.size_drew, size_setRow, World.heap_drewN]; omega) | simp only [World.size_alloc, World.size_drew, size_setRow, World.heap_drewN])) only [World.heap_drewN, heap_drew, heap_alloc_past, heap_alloc_at, heap_setRow_ne, heap_setCell_eq, heap_setCell_ne', putOf_some, set_ints, hI]), by rw [padXTo_succ]; exact (by simp (disch := (first | omega | (simp only [World.size_alloc, World.size_drew, size_setRow, World.heap_drewN]; omega) | simp only [World.size_alloc, World.size_drew, size_setRow, World.heap_drewN])) only [World.heap_drewN, heap_drew, heap_alloc_past, heap_alloc_at, heap_setRow_ne, heap_setCell_eq, heap_setCell_ne', putOf_some, set_ints, hJ]), ?_, (hBw.setCell (by simp; omega) _).setCell (by simp; omega) _, by simpa using hz⟩
          rw [heap_setCell_ne' _ _ _ _ _ (by omega), heap_setCell_ne' _ _ _ _ _ (by omega)]; exact hE
        case measure => simp [intOf]; omega
      · have Hm := Lib.hid (show m = 64 by omega)
        have hIB := padXTo_bd (keyPad_bd hkB) 54 m
        have hJB := padXTo_bd (keyPad_bd hkB) 92 m
        obtain ⟨X, hX⟩ : ∃ X, X = padXTo (keyPad key) 54 m := ⟨_, rfl⟩
        obtain ⟨Y, hY⟩ : ∃ Y, Y = padXTo (keyPad key) 92 m := ⟨_, rfl⟩
        rw [← hX] at hI hil hIB
        rw [← hY] at hJ hjl hJB
        have HX := Lib.hid hX; have HY := Lib.hid hY; clear hX hY
        have hzw : w.heap.size ≤ wr.heap.size := by omega
        have hO0 := OwnV.of_row (base := w.heap.size) (vs := [Value.slice (some ⟨I, 0, none⟩) 64 64]) (blk1_0 wr (.cells #[Value.slice (some ⟨I, 0, none⟩) 64 64] 25)) rfl hzw (by unfold maxLen; simp)
        have hVa := (hV.below hBw).below ((Below.refl _ wr).alloc (Nat.le_refl _) (.cells #[Value.slice (some ⟨I, 0, none⟩) 64 64] 25))
        have hone := hL.one
        have hvl := hL.1
        have HO0 := Lib.hid hO0; clear hO0
        have HVA := Lib.hid hVa; clear hVa
        have HONE := Lib.hid hone; clear hone
        have HVL := Lib.hid hvl; clear hvl
        go_wp2_with (refine ap_vals rfl rfl Tryd.underlying149 (E := 25) (z := .slice none 0 0) (by' := 24) (by kernel_rfl) rfl (by decide) (base := w.heap.size) (v := .slice (some ⟨wr.heap.size, 0, none⟩) 1 1) (l := [Value.slice (some ⟨I, 0, none⟩) 64 64]) (m := vs) rfl (by exact HO0.out) rfl HVL.out.symm (by exact HVA.out) HONE.out (by rw [HVL.out]; simp; omega) (by simp; omega) ?_; intro v2 w2 hO2 hg2)
        obtain ⟨p2, c2, rfl, hSV2, _⟩ := hO2.form
        have hBr2 : Below wr.heap.size wr w2 := (Kep.of_grown (S := fun g => (Value.slice (some ⟨wr.heap.size, 0, none⟩) 1 1).ownBlock = some g) hg2 (fun g e => e)).below ((Below.refl _ wr).alloc (Nat.le_refl _) _) (by simp) (fun g e => by simp only [Value.ownBlock, Option.some.injEq] at e; omega)
        have hBw2 := hBw.trans (hBr2.mono hzw)
        have hI2 := below_block hBr2 hI (by omega)
        have hJ2 := below_block hBr2 hJ (by omega)
        have hE2 := below_block hBr2 hE (by omega)
        have hXI : SL .u8 w2 (some ⟨I, 0, none⟩) X := SL.row_all hI2
        have hSL2 : SLs w2 (Value.slice (some ⟨I, 0, none⟩) 64 64 :: vs) (X :: ls) := by
          have := SLs.cons (p := some ⟨I, 0, none⟩) (cap := 64) hXI (by omega) ((hL.below hBw).below hBr2)
          rwa [hil] at this
        have hln : ([Value.slice (some ⟨I, 0, none⟩) 64 64] ++ vs).length = (X :: ls).length := by simp [HVL.out]
        have hflat : (X :: ls).flatten = X ++ ls.flatten := rfl
        have hz2 : wr.heap.size ≤ w2.heap.size := hBr2.size
        have hC1 := sum_any (X :: ls) (by rw [hflat]; exact hIB.append (by decide) hB) (by rw [hflat, List.length_append]; omega) (by rw [hflat, List.length_append]; omega) (by simp; omega) _ p2 c2 w2 ((hR.below hBw2 hRlt.out)) hSV2 hSL2
        rw [hln]
        have HFL := Lib.hid hflat
        clear hflat hln hSL2 hXI hSV2 hO2 hg2 HO0 HVA hI hJ hE
        refine hC1.mono ?_
        clear hC1
        rintro e w3 ⟨rfl, hB3⟩
        rw [HFL.out]
        have hsl := sumS_len (X ++ ls.flatten)
        have hsB := sumS_bd (X ++ ls.flatten)
        have hJ3 := below_block hB3 hJ2 (by omega)
        have hE3 := below_block hB3 hE2 (by omega)
        have hBw3 := hBw2.trans (hB3.mono (by omega))
        have hz3 : w.heap.size + 3 ≤ w3.heap.size := by have := hB3.size; omega
        clear hJ2 hE2 hI2 hBr2 hB3
        obtain ⟨Z, hZ⟩ : ∃ Z, Z = sumS (X ++ ls.flatten) := ⟨_, rfl⟩
        rw [← hZ] at hsl hsB ⊢
        have HZ := Lib.hid hZ; clear hZ
        go_wp2_with (first | (refine al_row rfl (T := 31) rfl (cs := ints .u8 (zerosL 32)) (by kernel_rfl) ?_) | (refine st_row (n := 32) rfl (ty := 31) rfl rfl rfl (by exact heap_alloc_at _ _ _ rfl) (by kernel_rfl) (by rw [size_ints, zerosL_len]) (by rw [size_ints, hsl]) (oneCell_ints _ _) ?_; rw [setRow_alloc_at _ _ _ _ _ rfl]))
        have hBz : Below w3.heap.size w3 ((w3.alloc (.cells (ints .u8 Z) 31)).alloc (.cells #[Value.slice (some ⟨J, 0, none⟩) 64 64, Value.slice (some ⟨w3.heap.size, 0, none⟩) 32 32] 25)) := ((Below.refl _ w3).alloc (Nat.le_refl _) _).alloc (by simp) _
        have hBw4 := hBw3.trans (hBz.mono (by omega))
        have hSV4 : SV ((w3.alloc (.cells (ints .u8 Z) 31)).alloc (.cells #[Value.slice (some ⟨J, 0, none⟩) 64 64, Value.slice (some ⟨w3.heap.size, 0, none⟩) 32 32] 25)) (some ⟨w3.heap.size + 1, 0, none⟩) [Value.slice (some ⟨J, 0, none⟩) 64 64, Value.slice (some ⟨w3.heap.size, 0, none⟩) 32 32] := SV.row (blk2_1 _ _ _) rfl
        have hSL4 : SLs ((w3.alloc (.cells (ints .u8 Z) 31)).alloc (.cells #[Value.slice (some ⟨J, 0, none⟩) 64 64, Value.slice (some ⟨w3.heap.size, 0, none⟩) 32 32] 25)) [Value.slice (some ⟨J, 0, none⟩) 64 64, Value.slice (some ⟨w3.heap.size, 0, none⟩) 32 32] [Y, Z] := by
          have h1 := SLs.cons (w := (w3.alloc (.cells (ints .u8 Z) 31)).alloc (.cells #[Value.slice (some ⟨J, 0, none⟩) 64 64, Value.slice (some ⟨w3.heap.size, 0, none⟩) 32 32] 25)) (p := some ⟨w3.heap.size, 0, none⟩) (cap := 32) (l := Z) (SL.row_all (blk2_0 _ _ _)) (by omega) (SLs.nil _)
          have h2 := SLs.cons (p := some ⟨J, 0, none⟩) (cap := 64) (l := Y) (SL.row_all (below_block hBz hJ3 (by omega))) (by omega) h1
          rwa [hsl, hjl] at h2
        have hE4 := below_block hBz hE3 (by omega)
        have hz4 : w.heap.size + 3 ≤ ((w3.alloc (.cells (ints .u8 Z) 31)).alloc (.cells #[Value.slice (some ⟨J, 0, none⟩) 64 64, Value.slice (some ⟨w3.heap.size, 0, none⟩) 32 32] 25)).heap.size := by simp; omega
        have hflat2 : [Y, Z].flatten = Y ++ Z := by simp
        refine (sum_any [Y, Z] (by rw [hflat2]; exact hJB.append (by decide) hsB) (by rw [hflat2, List.length_append]; omega) (by rw [hflat2, List.length_append]; omega) (by simp) _ _ 2 _ (hR.below hBw4 hRlt.out) hSV4 hSL4).mono ?_
        rintro e w5 ⟨rfl, hB5⟩
        rw [hflat2]
        have hE5 := below_block hB5 hE4 (by omega)
        have hBw5 := hBw4.trans (hB5.mono (by omega))
        have hl5 := sumS_len (Y ++ Z)
        have HZ5 : Hid (sumS (Y ++ Z) = hmacS key ls.flatten) := by rw [HZ.out, HY.out, HX.out, Hm.out]; rfl
        clear hB5 hE4 hSL4 hSV4 hBw4 hBz hflat2
        go_wp2_with (first | (refine st_row (n := 32) rfl (ty := 31) rfl rfl rfl (by exact hE5) (by kernel_rfl) (by rw [size_ints, zerosL_len]) (by rw [size_ints, hl5]) (oneCell_ints _ _) ?_))
        refine end_row (n := 32) rfl rfl (setRow_heap _ _ _ _ 31 (0,0) (by exact hE5)) Tryd.underlying31 rfl (by kernel_rfl) (by rw [size_ints, hl5]) rfl ⟨?_, belowRow hBw5 (by omega) _⟩
        rw [HZ5.out]
  · have hE := blk3_0 w (.cells (ints .u8 (zerosL 32)) 31) (.cells (ints .u8 (zerosL 64)) 5) (.cells (ints .u8 (zerosL 64)) 5)
    have hJ := blk3_1 w (.cells (ints .u8 (zerosL 32)) 31) (.cells (ints .u8 (zerosL 64)) 5) (.cells (ints .u8 (zerosL 64)) 5)
    have hI := blk3_2 w (.cells (ints .u8 (zerosL 32)) 31) (.cells (ints .u8 (zerosL 64)) 5) (.cells (ints .u8 (zerosL 64)) 5)
    have hBw : Below w.heap.size w ((((w.alloc (.cells (ints .u8 (zerosL 32)) 31)).alloc (.cells (ints .u8 (zerosL 64)) 5)).alloc (.cells (ints .u8 (zerosL 64)) 5)).drew) := ((((Below.refl _ w).alloc (Nat.le_refl _) _).alloc (by simp) _).alloc (by simp; omega) _).drew
    have hz : w.heap.size + 3 ≤ ((((w.alloc (.cells (ints .u8 (zerosL 32)) 31)).alloc (.cells (ints .u8 (zerosL 64)) 5)).alloc (.cells (ints .u8 (zerosL 64)) 5)).drew).heap.size := by simp
    generalize hW : (((w.alloc (.cells (ints .u8 (zerosL 32)) 31)).alloc (.cells (ints .u8 (zerosL 64)) 5)).alloc (.cells (ints .u8 (zerosL 64)) 5)).drew = W at *
    have hWh : W.heap = (((w.alloc (.cells (ints .u8 (zerosL 32)) 31)).alloc (.cells (ints .u8 (zerosL 64)) 5)).alloc (.cells (ints .u8 (zerosL 64)) 5)).heap := by rw [← hW]; rfl
    rw [← hWh] at hE hI hJ
    clear hW hWh
    obtain ⟨I, hb2⟩ : ∃ b, b = w.heap.size + 1 + 1 := ⟨_, rfl⟩
    obtain ⟨J, hb1⟩ : ∃ b, b = w.heap.size + 1 := ⟨_, rfl⟩
    rw [← hb2] at hI ⊢
    rw [← hb1] at hJ ⊢
    have hIJ : I ≠ J := by omega
    have hI0 : w.heap.size < I := by omega
    have hJ0 : w.heap.size < J := by omega
    have hIx : I < w.heap.size + 3 := by omega
    have hJx : J < w.heap.size + 3 := by omega
    clear hb1 hb2
    have hkpl := keyPad_len hk
    have hm64 : key.length = min key.length 64 := by omega
    have htk : key.take key.length = key := List.take_length ..
    have HM := Lib.hid hm64
    have HTK := Lib.hid htk
    clear hm64 htk
    have hKW := hK.below hBw
    have hzR : ∀ k, overC (ints .u8 (zerosL 64)) 0 (ints .u8 (key.take key.length)) = k → k = ints .u8 (keyPad key) := fun k e => by rw [← e, overC_ints, HTK.out]; unfold keyPad; rfl
    have HZR := Lib.hid hzR
    clear hzR
    go_wp2_with (first | (refine cp_seg rfl rfl Tryd.underlying25 (by kernel_rfl) (g := I) (off := 0) (n := key.length) (k := .u8) (src := key) (cs := ints .u8 (zerosL 64)) rfl rfl (by exact hI) (by exact hKW) rfl HM.out (by rw [size_ints, zerosL_len]; omega) ?_; intro wa hIa hoa hza hBa; rw [HZR.out _ rfl] at hIa; have hJa := (hoa J (Ne.symm hIJ)).trans hJ; have hEa := (hoa w.heap.size (by omega)).trans hE; have hBwa := hBa _ _ hBw (by omega); have hKa := hK.below hBwa; clear hoa hBa) | (refine cp_seg rfl rfl Tryd.underlying25 (by kernel_rfl) (g := J) (off := 0) (n := key.length) (k := .u8) (src := key) (cs := ints .u8 (zerosL 64)) rfl rfl (by exact hJa) (by exact hKa) rfl HM.out (by rw [size_ints, zerosL_len]; omega) ?_; intro wb hJb hob hzb hBb; rw [HZR.out _ rfl] at hJb; have hIb := (hob I hIJ).trans hIa; have hEb := (hob w.heap.size (by omega)).trans hEa; have hBwb := hBb _ _ hBwa (by omega); clear hob hBb))
    have hzb' : w.heap.size + 3 ≤ wb.heap.size := by omega
    clear hI hJ hE hIa hJa hEa hKa hKW hBwa hza hzb hBw hz
    go_loopw [8, 25] (fun _ iv wr => ∃ m : Nat, m ≤ 64 ∧ iv = .int .i64 m ∧ wr.heap[I]? = some (.cells (ints .u8 (padXTo (keyPad key) 54 m)) 5 (0, 0)) ∧ wr.heap[J]? = some (.cells (ints .u8 (padXTo (keyPad key) 92 m)) 5 (0, 0)) ∧ wr.heap[w.heap.size]? = some (.cells (ints .u8 (zerosL 32)) 31 (0, 0)) ∧ Below w.heap.size w wr ∧ w.heap.size + 3 ≤ wr.heap.size) (fun _ iv _ => 64 - (intOf iv).toNat)
    case atStart => exact ⟨0, by omega, rfl, by rw [padXTo_zero]; exact hIb, by rw [padXTo_zero]; exact hJb, hEb, hBwb, hzb'⟩
    case round =>
      clear hIb hJb hEb hBwb hzb'
      obtain ⟨m, hm, rfl, hI, hJ, hE, hBw, hz⟩ := hrel
      have hil := padXTo_len (keyPad key) 54 m
      have hjl := padXTo_len (keyPad key) 92 m
      rw [hkpl] at hil hjl
      have hJI := hIJ.symm
      by_cases hm64 : m < 64
      · have m1 : (m : Int) < 64 := by omega
        go_wp2
        go_roundw
        case rel =>
          refine ⟨m + 1, by omega, by go_num, by rw [padXTo_succ]; exact (by simp (disch := (first | omega | (simp only [World.size_alloc, World.size_drew, size_setRow, World.heap_drewN]; omega) | simp only [World.size_alloc, World.size_drew, size_setRow, World.heap_drewN])) only [World.heap_drewN, heap_drew, heap_alloc_past, heap_alloc_at, heap_setRow_ne, heap_setCell_eq, heap_setCell_ne', putOf_some, set_ints, hI]), by rw [padXTo_succ]; exact (by simp (disch := (first | omega | (simp only [World.size_alloc, World.size_drew, size_setRow, World.heap_drewN]; omega) | simp only [World.size_alloc, World.size_drew, size_setRow, World.heap_drewN])) only [World.heap_drewN, heap_drew, heap_alloc_past, heap_alloc_at, heap_setRow_ne, heap_setCell_eq, heap_setCell_ne', putOf_some, set_ints, hJ]), ?_, (hBw.setCell (by simp; omega) _).setCell (by simp; omega) _, by simpa using hz⟩
          rw [heap_setCell_ne' _ _ _ _ _ (by omega), heap_setCell_ne' _ _ _ _ _ (by omega)]; exact hE
        case measure => simp [intOf]; omega
      · have Hm := Lib.hid (show m = 64 by omega)
        have hIB := padXTo_bd (keyPad_bd hkB) 54 m
        have hJB := padXTo_bd (keyPad_bd hkB) 92 m
        obtain ⟨X, hX⟩ : ∃ X, X = padXTo (keyPad key) 54 m := ⟨_, rfl⟩
        obtain ⟨Y, hY⟩ : ∃ Y, Y = padXTo (keyPad key) 92 m := ⟨_, rfl⟩
        rw [← hX] at hI hil hIB
        rw [← hY] at hJ hjl hJB
        have HX := Lib.hid hX; have HY := Lib.hid hY; clear hX hY
        have hzw : w.heap.size ≤ wr.heap.size := by omega
        have hO0 := OwnV.of_row (base := w.heap.size) (vs := [Value.slice (some ⟨I, 0, none⟩) 64 64]) (blk1_0 wr (.cells #[Value.slice (some ⟨I, 0, none⟩) 64 64] 25)) rfl hzw (by unfold maxLen; simp)
        have hVa := (hV.below hBw).below ((Below.refl _ wr).alloc (Nat.le_refl _) (.cells #[Value.slice (some ⟨I, 0, none⟩) 64 64] 25))
        have hone := hL.one
        have hvl := hL.1
        have HO0 := Lib.hid hO0; clear hO0
        have HVA := Lib.hid hVa; clear hVa
        have HONE := Lib.hid hone; clear hone
        have HVL := Lib.hid hvl; clear hvl
        go_wp2_with (refine ap_vals rfl rfl Tryd.underlying149 (E := 25) (z := .slice none 0 0) (by' := 24) (by kernel_rfl) rfl (by decide) (base := w.heap.size) (v := .slice (some ⟨wr.heap.size, 0, none⟩) 1 1) (l := [Value.slice (some ⟨I, 0, none⟩) 64 64]) (m := vs) rfl (by exact HO0.out) rfl HVL.out.symm (by exact HVA.out) HONE.out (by rw [HVL.out]; simp; omega) (by simp; omega) ?_; intro v2 w2 hO2 hg2)
        obtain ⟨p2, c2, rfl, hSV2, _⟩ := hO2.form
        have hBr2 : Below wr.heap.size wr w2 := (Kep.of_grown (S := fun g => (Value.slice (some ⟨wr.heap.size, 0, none⟩) 1 1).ownBlock = some g) hg2 (fun g e => e)).below ((Below.refl _ wr).alloc (Nat.le_refl _) _) (by simp) (fun g e => by simp only [Value.ownBlock, Option.some.injEq] at e; omega)
        have hBw2 := hBw.trans (hBr2.mono hzw)
        have hI2 := below_block hBr2 hI (by omega)
        have hJ2 := below_block hBr2 hJ (by omega)
        have hE2 := below_block hBr2 hE (by omega)
        have hXI : SL .u8 w2 (some ⟨I, 0, none⟩) X := SL.row_all hI2
        have hSL2 : SLs w2 (Value.slice (some ⟨I, 0, none⟩) 64 64 :: vs) (X :: ls) := by
          have := SLs.cons (p := some ⟨I, 0, none⟩) (cap := 64) hXI (by omega) ((hL.below hBw).below hBr2)
          rwa [hil] at this
        have hln : ([Value.slice (some ⟨I, 0, none⟩) 64 64] ++ vs).length = (X :: ls).length := by simp [HVL.out]
        have hflat : (X :: ls).flatten = X ++ ls.flatten := rfl
        have hz2 : wr.heap.size ≤ w2.heap.size := hBr2.size
        have hC1 := sum_any (X :: ls) (by rw [hflat]; exact hIB.append (by decide) hB) (by rw [hflat, List.length_append]; omega) (by rw [hflat, List.length_append]; omega) (by simp; omega) _ p2 c2 w2 ((hR.below hBw2 hRlt.out)) hSV2 hSL2
        rw [hln]
        have HFL := Lib.hid hflat
        clear hflat hln hSL2 hXI hSV2 hO2 hg2 HO0 HVA hI hJ hE
        refine hC1.mono ?_
        clear hC1
        rintro e w3 ⟨rfl, hB3⟩
        rw [HFL.out]
        have hsl := sumS_len (X ++ ls.flatten)
        have hsB := sumS_bd (X ++ ls.flatten)
        have hJ3 := below_block hB3 hJ2 (by omega)
        have hE3 := below_block hB3 hE2 (by omega)
        have hBw3 := hBw2.trans (hB3.mono (by omega))
        have hz3 : w.heap.size + 3 ≤ w3.heap.size := by have := hB3.size; omega
        clear hJ2 hE2 hI2 hBr2 hB3
        obtain ⟨Z, hZ⟩ : ∃ Z, Z = sumS (X ++ ls.flatten) := ⟨_, rfl⟩
        rw [← hZ] at hsl hsB ⊢
        have HZ := Lib.hid hZ; clear hZ
        go_wp2_with (first | (refine al_row rfl (T := 31) rfl (cs := ints .u8 (zerosL 32)) (by kernel_rfl) ?_) | (refine st_row (n := 32) rfl (ty := 31) rfl rfl rfl (by exact heap_alloc_at _ _ _ rfl) (by kernel_rfl) (by rw [size_ints, zerosL_len]) (by rw [size_ints, hsl]) (oneCell_ints _ _) ?_; rw [setRow_alloc_at _ _ _ _ _ rfl]))
        have hBz : Below w3.heap.size w3 ((w3.alloc (.cells (ints .u8 Z) 31)).alloc (.cells #[Value.slice (some ⟨J, 0, none⟩) 64 64, Value.slice (some ⟨w3.heap.size, 0, none⟩) 32 32] 25)) := ((Below.refl _ w3).alloc (Nat.le_refl _) _).alloc (by simp) _
        have hBw4 := hBw3.trans (hBz.mono (by omega))
        have hSV4 : SV ((w3.alloc (.cells (ints .u8 Z) 31)).alloc (.cells #[Value.slice (some ⟨J, 0, none⟩) 64 64, Value.slice (some ⟨w3.heap.size, 0, none⟩) 32 32] 25)) (some ⟨w3.heap.size + 1, 0, none⟩) [Value.slice (some ⟨J, 0, none⟩) 64 64, Value.slice (some ⟨w3.heap.size, 0, none⟩) 32 32] := SV.row (blk2_1 _ _ _) rfl
        have hSL4 : SLs ((w3.alloc (.cells (ints .u8 Z) 31)).alloc (.cells #[Value.slice (some ⟨J, 0, none⟩) 64 64, Value.slice (some ⟨w3.heap.size, 0, none⟩) 32 32] 25)) [Value.slice (some ⟨J, 0, none⟩) 64 64, Value.slice (some ⟨w3.heap.size, 0, none⟩) 32 32] [Y, Z] := by
          have h1 := SLs.cons (w := (w3.alloc (.cells (ints .u8 Z) 31)).alloc (.cells #[Value.slice (some ⟨J, 0, none⟩) 64 64, Value.slice (some ⟨w3.heap.size, 0, none⟩) 32 32] 25)) (p := some ⟨w3.heap.size, 0, none⟩) (cap := 32) (l := Z) (SL.row_all (blk2_0 _ _ _)) (by omega) (SLs.nil _)
          have h2 := SLs.cons (p := some ⟨J, 0, none⟩) (cap := 64) (l := Y) (SL.row_all (below_block hBz hJ3 (by omega))) (by omega) h1
          rwa [hsl, hjl] at h2
        have hE4 := below_block hBz hE3 (by omega)
        have hz4 : w.heap.size + 3 ≤ ((w3.alloc (.cells (ints .u8 Z) 31)).alloc (.cells #[Value.slice (some ⟨J, 0, none⟩) 64 64, Value.slice (some ⟨w3.heap.size, 0, none⟩) 32 32] 25)).heap.size := by simp; omega
        have hflat2 : [Y, Z].flatten = Y ++ Z := by simp
        refine (sum_any [Y, Z] (by rw [hflat2]; exact hJB.append (by decide) hsB) (by rw [hflat2, List.length_append]; omega) (by rw [hflat2, List.length_append]; omega) (by simp) _ _ 2 _ (hR.below hBw4 hRlt.out) hSV4 hSL4).mono ?_
        rintro e w5 ⟨rfl, hB5⟩
        rw [hflat2]
        have hE5 := below_block hB5 hE4 (by omega)
        have hBw5 := hBw4.trans (hB5.mono (by omega))
        have hl5 := sumS_len (Y ++ Z)
        have HZ5 : Hid (sumS (Y ++ Z) = hmacS key ls.flatten) := by rw [HZ.out, HY.out, HX.out, Hm.out]; rfl
        clear hB5 hE4 hSL4 hSV4 hBw4 hBz hflat2
        go_wp2_with (first | (refine st_row (n := 32) rfl (ty := 31) rfl rfl rfl (by exact hE5) (by kernel_rfl) (by rw [size_ints, zerosL_len]) (by rw [size_ints, hl5]) (oneCell_ints _ _) ?_))
        refine end_row (n := 32) rfl rfl (setRow_heap _ _ _ _ 31 (0,0) (by exact hE5)) Tryd.underlying31 rfl (by kernel_rfl) (by rw [size_ints, hl5]) rfl ⟨?_, belowRow hBw5 (by omega) _⟩
        rw [HZ5.out]
end Go.Proofs.YtjieiijbgbkikaaDoor
end
