/- Lemmas of a proof over the given program, joined by wip/join.py: KPolyC KMac KSha. -/
import Derived.Test.YtjieiijbgbkikaaDoorJ01
import Derived.Test.YtjieiijbgbkikaaDoorJ05
import Derived.Test.YtjieiijbgbkikaaDoorJ06
set_option linter.unusedSimpArgs false
set_option linter.unusedVariables false
section
/- Package poly: block. -/
namespace Go.Proofs.YtjieiijbgbkikaaDoor
open Go Go.RowKit
set_option maxRecDepth 100000
attribute [local go_sem] cell?_eq frozen?_eq heap_setCell_eq heap_setCell_ne

/-- A block's bytes with the one behind them. -/
def padS (p : List Int) : List Int := (overL (zerosL 17) 0 p).set p.length 1
theorem padS_len (p : List Int) (h : p.length ≤ 16) : (padS p).length = 17 := by simp [padS]; rw [overL_len (by rw [zerosL_len]; omega), zerosL_len]
theorem padS_bd (p : List Int) (h : Bd 256 p) : Bd 256 (padS p) := (Bd.overL (by decide) (Bd.zerosL (by decide) 17) 0 h).set _ _ (by decide) (by decide)
theorem padS_eq (p : List Int) : padS p = (overL (zerosL 17) 0 p).set p.length 1 := rfl
attribute [irreducible] padS
def u64w (x : Int) : Int := IntKind.u64.wrap x
/-- The limbs of a sum, k of them done. -/
def addTo (h b : List Int) : Nat → List Int
  | 0 => h
  | k + 1 => (addTo h b k).set k (u64w (nth (addTo h b k) k + nth b k))
theorem addTo_len (h b : List Int) (k : Nat) : (addTo h b k).length = h.length := by induction k <;> simp [addTo, *]
theorem addTo_zero (h b : List Int) : addTo h b 0 = h := rfl
theorem addTo_succ (h b : List Int) (k : Nat) : addTo h b (k + 1) = (addTo h b k).set k (u64w (nth (addTo h b k) k + nth b k)) := rfl
attribute [irreducible] addTo
def mulX (h r : List Int) (i j : Nat) : Int := if 5 ≤ i + j then u64w (u64w (nth h i * nth r j) * 5) else u64w (nth h i * nth r j)
/-- One row of a product. -/
def rowTo (h r : List Int) (i : Nat) (d : List Int) : Nat → List Int
  | 0 => d
  | j + 1 => (rowTo h r i d j).set ((i + j) % 5) (u64w (nth (rowTo h r i d j) ((i + j) % 5) + mulX h r i j))
theorem rowTo_len (h r : List Int) (i : Nat) (d : List Int) (j : Nat) : (rowTo h r i d j).length = d.length := by induction j <;> simp [rowTo, *]
theorem rowTo_zero (h r : List Int) (i : Nat) (d : List Int) : rowTo h r i d 0 = d := rfl
theorem rowTo_succ (h r : List Int) (i : Nat) (d : List Int) (j : Nat) : rowTo h r i d (j + 1) = (rowTo h r i d j).set ((i + j) % 5) (u64w (nth (rowTo h r i d j) ((i + j) % 5) + mulX h r i j)) := rfl
attribute [irreducible] rowTo
def mulTo (h r : List Int) : Nat → List Int
  | 0 => zerosL 5
  | i + 1 => rowTo h r i (mulTo h r i) 5
theorem mulTo_len (h r : List Int) (i : Nat) : (mulTo h r i).length = 5 := by induction i <;> simp [mulTo, rowTo_len, zerosL_len, *]
theorem mulTo_zero (h r : List Int) : mulTo h r 0 = zerosL 5 := rfl
theorem mulTo_succ (h r : List Int) (i : Nat) : mulTo h r (i + 1) = rowTo h r i (mulTo h r i) 5 := rfl
attribute [irreducible] mulTo
/-- The carries, k limbs done: the limbs, the carry. -/
def carTo (d : List Int) : Nat → List Int × Int
  | 0 => (d, 0)
  | k + 1 =>
    let x := u64w (nth (carTo d k).1 k + (carTo d k).2)
    ((carTo d k).1.set k (bits .and .u64 x 67108863), x / 67108864)
theorem carTo_len (d : List Int) (k : Nat) : (carTo d k).1.length = d.length := by induction k <;> simp [carTo, *]
theorem carTo_zero (d : List Int) : carTo d 0 = (d, 0) := rfl
theorem carTo_succ1 (d : List Int) (k : Nat) : (carTo d (k + 1)).1 = (carTo d k).1.set k (bits .and .u64 (u64w (nth (carTo d k).1 k + (carTo d k).2)) 67108863) := rfl
theorem carTo_succ2 (d : List Int) (k : Nat) : (carTo d (k + 1)).2 = u64w (nth (carTo d k).1 k + (carTo d k).2) / 67108864 := rfl
attribute [irreducible] carTo
def endS (d : List Int) (c : Int) : List Int :=
  let d0 := u64w (nth d 0 + u64w (5 * c))
  ((d.set 0 d0).set 1 (u64w (nth d 1 + d0 / 67108864))).set 0 (bits .and .u64 d0 67108863)
def pblockS (h r p : List Int) : List Int :=
  let e := carTo (mulTo (addTo h (limbsS (padS p)) 5) r 5) 5
  endS e.1 e.2

set_option maxHeartbeats 8000000 in
theorem pblock_any (h r p : List Int) (hh : h.length = 5) (hr : r.length = 5) (hp : p.length ≤ 16) (hpB : Bd 256 p) (pp : Option Addr) (cap : Nat) (w : World) (hS : SL .u8 w pp p) :
    Calls Tryd.prog 102 #[.agg (ints .u64 h), .agg (ints .u64 r), .slice pp p.length cap] w fun e w' => e = .returned (.agg (ints .u64 (pblockS h r p))) ∧ Below w.heap.size w w' := by
  have p0 : (p.length : Int) < 17 := by omega
  have hov : p.length < (overL (zerosL 17) 0 p).length := by rw [overL_len (by rw [zerosL_len]; omega), zerosL_len]; omega
  have hpd := (show (overL (zerosL 17) 0 p).set p.length 1 = padS p from (padS_eq p).symm)
  have hpl := padS_len p hp
  go_enter Tryd.func102, Tryd.ntmps102
  go_wp2_with (first | (refine al_row rfl (T := 141) rfl (cs := ints .u64 (zerosL 5)) (by kernel_rfl) ?_) | (refine al_row rfl (T := 144) rfl (cs := ints .u8 (zerosL 17)) (by kernel_rfl) ?_) | (refine cp_seg rfl rfl Tryd.underlying25 (by kernel_rfl) (n := p.length) (k := .u8) (src := p) (cs := ints .u8 (zerosL 17)) rfl rfl (by exact blk4_3 _ _ _ _ _) (by exact (((hS.alloc _).alloc _).alloc _).alloc _) rfl (by omega) (by rw [size_ints, zerosL_len]; omega) ?_; intro w1 h1 ho1 hz1 hB1; rw [overC_ints, List.take_length] at h1; have hH := (ho1 w.heap.size (by omega)).trans (blk4_0 _ _ _ _ _); have hR := (ho1 (w.heap.size + 1) (by omega)).trans (blk4_1 _ _ _ _ _); have hO := (ho1 (w.heap.size + 1 + 1) (by omega)).trans (blk4_2 _ _ _ _ _); have hBw := hB1 _ _ ((((Below.refl w.heap.size w).alloc (Nat.le_refl _) _).alloc (by simp) _).alloc (by simp; omega) _ |>.alloc (by simp; omega) _) (by omega); have hzw : w.heap.size + 4 ≤ w1.heap.size := (by rw [hz1]; simp); clear ho1 hz1 hB1) | (refine st_int rfl (ty := 5) rfl rfl rfl (by kernel_rfl) h1 hov ?_) | (refine ld_ints rfl (ty := 144) rfl rfl (by exact (setRow_heap _ _ _ _ _ _ h1).trans (by rw [hpd])) Tryd.underlying144 (by kernel_rfl) hpl ?_))
  have hH1 := (setRow_other w1 (w.heap.size + 1 + 1 + 1) _ (ints .u8 (padS p)) (by omega)).trans hH
  have hR1 := (setRow_other w1 (w.heap.size + 1 + 1 + 1) _ (ints .u8 (padS p)) (by omega)).trans hR
  have hO1 := (setRow_other w1 (w.heap.size + 1 + 1 + 1) _ (ints .u8 (padS p)) (by omega)).trans hO
  have hBw1 := belowRow hBw (show w.heap.size ≤ w.heap.size + 1 + 1 + 1 by omega) (ints .u8 (padS p))
  refine (limbs_any (padS p) hpl (padS_bd p hpB) _).mono ?_
  rintro e w2 ⟨rfl, hB2⟩
  have hH2 := below_block hB2 hH1 (by rw [size_setRow]; omega)
  have hR2 := below_block hB2 hR1 (by rw [size_setRow]; omega)
  have hO2 := below_block hB2 hO1 (by rw [size_setRow]; omega)
  have hBw2 := hBw1.trans (hB2.mono (by rw [size_setRow]; omega))
  have hz2 : w.heap.size + 4 ≤ w2.heap.size := by have := hB2.size; rw [size_setRow] at this; omega
  clear hH1 hR1 hO1 hBw1 hB2 hH hR hO hBw hzw h1 hpd hov
  obtain ⟨L, hL⟩ : ∃ L, L = limbsS (padS p) := ⟨_, rfl⟩
  have hL5 : L.length = 5 := by rw [hL, limbsS_len]
  rw [← hL]
  have HL := Lib.hid hL; clear hL
  go_wp2
  go_loopw [8, 9, 24] (fun _ _ i wr => ∃ k : Nat, k ≤ 5 ∧ i = .int .i64 k ∧ wr.heap[w.heap.size]? = some (.cells (ints .u64 (addTo h L k)) 141 (0, 0)) ∧ wr.heap[w.heap.size + 1]? = some (.cells (ints .u64 r) 141 (0, 0)) ∧
      wr.heap[w.heap.size + 1 + 1]? = some (.cells (ints .u64 (zerosL 5)) 141 (0, 0)) ∧ Below w.heap.size w wr ∧ w.heap.size + 4 ≤ wr.heap.size) (fun _ _ i _ => 5 - (intOf i).toNat)
  case atStart => exact ⟨0, by omega, rfl, by rw [addTo_zero]; exact hH2, hR2, hO2, hBw2, hz2⟩
  case round =>
    clear hH2 hR2 hO2 hBw2 hz2
    obtain ⟨k, hk5, rfl, hH, hR, hO, hB, hz⟩ := hrel
    have hal : (addTo h L k).length = 5 := by rw [addTo_len, hh]
    by_cases hlt : k < 5
    · have k1 : (k : Int) < 5 := by omega
      have hix := fun wx => run_index_ints (P := Tryd.prog) (k := .u64) (T := 141) Tryd.underlying141 Tryd.underlying22 (by kernel_rfl) L k hlt (by omega) wx
      go_wp2
      go_roundw
      case rel => exact ⟨k + 1, by omega, by go_num, by rw [addTo_succ]; exact (by simp (disch := (first | omega | (simp only [World.size_alloc, World.size_drew, size_setRow, World.heap_drewN]; omega) | simp only [World.size_alloc, World.size_drew, size_setRow, World.heap_drewN])) only [World.heap_drewN, heap_drew, heap_alloc_past, heap_alloc_at, heap_setRow_ne, heap_setCell_eq, heap_setCell_ne', putOf_some, set_ints, hH, u64w]), (by simp (disch := (first | omega | (simp only [World.size_alloc, World.size_drew, size_setRow, World.heap_drewN]; omega) | simp only [World.size_alloc, World.size_drew, size_setRow, World.heap_drewN])) only [World.heap_drewN, heap_drew, heap_alloc_past, heap_alloc_at, heap_setRow_ne, heap_setCell_eq, heap_setCell_ne', putOf_some, set_ints, hR]), (by simp (disch := (first | omega | (simp only [World.size_alloc, World.size_drew, size_setRow, World.heap_drewN]; omega) | simp only [World.size_alloc, World.size_drew, size_setRow, World.heap_drewN])) only [World.heap_drewN, heap_drew, heap_alloc_past, heap_alloc_at, heap_setRow_ne, heap_setCell_eq, heap_setCell_ne', putOf_some, set_ints, hO]), hB.setCell (by simp) _, by simpa using hz⟩
      case measure => simp [intOf]; omega
    · have hk' := Lib.hid (show k = 5 by omega)
      go_wp2_with (refine al_row rfl (T := 141) rfl (cs := ints .u64 (zerosL 5)) (by kernel_rfl) ?_)
      obtain ⟨D, hD⟩ : ∃ D, D = wr.heap.size := ⟨_, rfl⟩
      have hd1 : w.heap.size + 4 ≤ D := by omega
      have hH1 : (wr.alloc (.cells (ints .u64 (zerosL 5)) 141)).heap[w.heap.size]? = some (.cells (ints .u64 (addTo h L k)) 141 (0, 0)) := (by simp (disch := (first | omega | (simp only [World.size_alloc, World.size_drew, size_setRow, World.heap_drewN]; omega) | simp only [World.size_alloc, World.size_drew, size_setRow, World.heap_drewN])) only [World.heap_drewN, heap_drew, heap_alloc_past, heap_alloc_at, heap_setRow_ne, heap_setCell_eq, heap_setCell_ne', putOf_some, set_ints, hH])
      have hR1 : (wr.alloc (.cells (ints .u64 (zerosL 5)) 141)).heap[w.heap.size + 1]? = some (.cells (ints .u64 r) 141 (0, 0)) := (by simp (disch := (first | omega | (simp only [World.size_alloc, World.size_drew, size_setRow, World.heap_drewN]; omega) | simp only [World.size_alloc, World.size_drew, size_setRow, World.heap_drewN])) only [World.heap_drewN, heap_drew, heap_alloc_past, heap_alloc_at, heap_setRow_ne, heap_setCell_eq, heap_setCell_ne', putOf_some, set_ints, hR])
      have hO1 : (wr.alloc (.cells (ints .u64 (zerosL 5)) 141)).heap[w.heap.size + 1 + 1]? = some (.cells (ints .u64 (zerosL 5)) 141 (0, 0)) := (by simp (disch := (first | omega | (simp only [World.size_alloc, World.size_drew, size_setRow, World.heap_drewN]; omega) | simp only [World.size_alloc, World.size_drew, size_setRow, World.heap_drewN])) only [World.heap_drewN, heap_drew, heap_alloc_past, heap_alloc_at, heap_setRow_ne, heap_setCell_eq, heap_setCell_ne', putOf_some, set_ints, hO])
      have hD1 : (wr.alloc (.cells (ints .u64 (zerosL 5)) 141)).heap[D]? = some (.cells (ints .u64 (mulTo (addTo h L k) r 0)) 141 (0, 0)) := by rw [mulTo_zero]; exact heap_alloc_at _ _ _ hD
      have hB1 := hB.alloc (show w.heap.size ≤ wr.heap.size by omega) (.cells (ints .u64 (zerosL 5)) 141)
      rw [← hD]
      clear hH hR hO hB hz hD
      generalize wr.alloc (.cells (ints .u64 (zerosL 5)) 141) = Wa at *
      obtain ⟨A, hA⟩ : ∃ A, A = addTo h L k := ⟨_, rfl⟩
      rw [← hA] at hH1 hD1 hal
      have HA := Lib.hid hA
      clear hA
      go_loopw [11, 12, 13, 35, 38] (fun _ _ _ i _ wr => ∃ i' : Nat, i' ≤ 5 ∧ i = .int .i64 i' ∧ wr.heap[w.heap.size]? = some (.cells (ints .u64 A) 141 (0, 0)) ∧ wr.heap[w.heap.size + 1]? = some (.cells (ints .u64 r) 141 (0, 0)) ∧
        wr.heap[w.heap.size + 1 + 1]? = some (.cells (ints .u64 (zerosL 5)) 141 (0, 0)) ∧ wr.heap[D]? = some (.cells (ints .u64 (mulTo A r i')) 141 (0, 0)) ∧ Below w.heap.size w wr) (fun _ _ _ i _ _ => 5 - (intOf i).toNat)
      case atStart => exact ⟨0, by omega, rfl, hH1, hR1, hO1, hD1, hB1⟩
      case round =>
        clear hH1 hR1 hO1 hD1 hB1
        obtain ⟨i', hi5, rfl, hH, hR, hO, hD, hB⟩ := hrel
        have hml := mulTo_len A r i'
        by_cases hlti : i' < 5
        · have a1 : (i' : Int) < 5 := by omega
          go_wp2
          go_loopw [12, 13, 38] (fun _ _ j wr => ∃ j' : Nat, j' ≤ 5 ∧ j = .int .i64 j' ∧ wr.heap[w.heap.size]? = some (.cells (ints .u64 A) 141 (0, 0)) ∧ wr.heap[w.heap.size + 1]? = some (.cells (ints .u64 r) 141 (0, 0)) ∧
            wr.heap[w.heap.size + 1 + 1]? = some (.cells (ints .u64 (zerosL 5)) 141 (0, 0)) ∧ wr.heap[D]? = some (.cells (ints .u64 (rowTo A r i' (mulTo A r i') j')) 141 (0, 0)) ∧ Below w.heap.size w wr) (fun _ _ j _ => 5 - (intOf j).toNat)
          case atStart => exact ⟨0, by omega, rfl, hH, hR, hO, by rw [rowTo_zero]; exact hD, hB⟩
          case round =>
            clear hH hR hO hD hB
            obtain ⟨j', hj5, rfl, hH, hR, hO, hD, hB⟩ := hrel
            have hrl : (rowTo A r i' (mulTo A r i') j').length = 5 := by rw [rowTo_len, hml]
            by_cases hltj : j' < 5
            · have b1 : (j' : Int) < 5 := by omega
              have b2 : (i' + j') % 5 < 5 := by omega
              have b3 : ((i' : Int) + (j' : Int)) % 5 < 5 := by omega
              have b4 : 0 ≤ ((i' : Int) + (j' : Int)) % 5 := by omega
              by_cases hge : 5 ≤ i' + j'
              · have hgi : 5 ≤ (i' : Int) + (j' : Int) := by omega
                have hmx := Lib.hid (show mulX A r i' j' = u64w (u64w (nth A i' * nth r j') * 5) by rw [mulX, if_pos hge])
                go_wp2
                go_quiet (fail)
                go_wp2
                go_roundw
                case rel => exact ⟨j' + 1, by omega, by go_num, (by simp (disch := (first | omega | (simp only [World.size_alloc, World.size_drew, size_setRow, World.heap_drewN]; omega) | simp only [World.size_alloc, World.size_drew, size_setRow, World.heap_drewN])) only [World.heap_drewN, heap_drew, heap_alloc_past, heap_alloc_at, heap_setRow_ne, heap_setCell_eq, heap_setCell_ne', putOf_some, set_ints, hH]), (by simp (disch := (first | omega | (simp only [World.size_alloc, World.size_drew, size_setRow, World.heap_drewN]; omega) | simp only [World.size_alloc, World.size_drew, size_setRow, World.heap_drewN])) only [World.heap_drewN, heap_drew, heap_alloc_past, heap_alloc_at, heap_setRow_ne, heap_setCell_eq, heap_setCell_ne', putOf_some, set_ints, hR]), (by simp (disch := (first | omega | (simp only [World.size_alloc, World.size_drew, size_setRow, World.heap_drewN]; omega) | simp only [World.size_alloc, World.size_drew, size_setRow, World.heap_drewN])) only [World.heap_drewN, heap_drew, heap_alloc_past, heap_alloc_at, heap_setRow_ne, heap_setCell_eq, heap_setCell_ne', putOf_some, set_ints, hO]), by rw [rowTo_succ, hmx.out]; exact (by simp (disch := (first | omega | (simp only [World.size_alloc, World.size_drew, size_setRow, World.heap_drewN]; omega) | simp only [World.size_alloc, World.size_drew, size_setRow, World.heap_drewN])) only [World.heap_drewN, heap_drew, heap_alloc_past, heap_alloc_at, heap_setRow_ne, heap_setCell_eq, heap_setCell_ne', putOf_some, set_ints, hD, u64w]), below_drewN (hB.setCell (by simp; omega) _) _⟩
                case measure => simp [intOf]; omega
              · have hgi : ¬ (5 ≤ (i' : Int) + (j' : Int)) := by omega
                have hmx := Lib.hid (show mulX A r i' j' = u64w (nth A i' * nth r j') by rw [mulX, if_neg hge])
                go_wp2
                go_quiet (fail)
                go_wp2
                go_roundw
                case rel => exact ⟨j' + 1, by omega, by go_num, (by simp (disch := (first | omega | (simp only [World.size_alloc, World.size_drew, size_setRow, World.heap_drewN]; omega) | simp only [World.size_alloc, World.size_drew, size_setRow, World.heap_drewN])) only [World.heap_drewN, heap_drew, heap_alloc_past, heap_alloc_at, heap_setRow_ne, heap_setCell_eq, heap_setCell_ne', putOf_some, set_ints, hH]), (by simp (disch := (first | omega | (simp only [World.size_alloc, World.size_drew, size_setRow, World.heap_drewN]; omega) | simp only [World.size_alloc, World.size_drew, size_setRow, World.heap_drewN])) only [World.heap_drewN, heap_drew, heap_alloc_past, heap_alloc_at, heap_setRow_ne, heap_setCell_eq, heap_setCell_ne', putOf_some, set_ints, hR]), (by simp (disch := (first | omega | (simp only [World.size_alloc, World.size_drew, size_setRow, World.heap_drewN]; omega) | simp only [World.size_alloc, World.size_drew, size_setRow, World.heap_drewN])) only [World.heap_drewN, heap_drew, heap_alloc_past, heap_alloc_at, heap_setRow_ne, heap_setCell_eq, heap_setCell_ne', putOf_some, set_ints, hO]), by rw [rowTo_succ, hmx.out]; exact (by simp (disch := (first | omega | (simp only [World.size_alloc, World.size_drew, size_setRow, World.heap_drewN]; omega) | simp only [World.size_alloc, World.size_drew, size_setRow, World.heap_drewN])) only [World.heap_drewN, heap_drew, heap_alloc_past, heap_alloc_at, heap_setRow_ne, heap_setCell_eq, heap_setCell_ne', putOf_some, set_ints, hD, u64w]), below_drewN (hB.setCell (by simp; omega) _) _⟩
                case measure => simp [intOf]; omega
            · have hj' := Lib.hid (show j' = 5 by omega)
              go_wp2
              go_roundw
              case rel => exact ⟨i' + 1, by omega, by go_num, hH, hR, hO, by rw [mulTo_succ, ← hj'.out]; exact hD, hB⟩
              case measure => simp [intOf]; omega
        · have hi' := Lib.hid (show i' = 5 by omega)
          go_wp2
          obtain ⟨M, hM⟩ : ∃ M, M = mulTo A r i' := ⟨_, rfl⟩
          rw [← hM] at hD hml
          have HM := Lib.hid hM; clear hM
          go_loopw [14, 15, 65] (fun c _ i wr => ∃ q : Nat, q ≤ 5 ∧ i = .int .i64 q ∧ c = .int .u64 (carTo M q).2 ∧ wr.heap[w.heap.size + 1 + 1]? = some (.cells (ints .u64 (zerosL 5)) 141 (0, 0)) ∧ wr.heap[D]? = some (.cells (ints .u64 (carTo M q).1) 141 (0, 0)) ∧ Below w.heap.size w wr) (fun _ _ i _ => 5 - (intOf i).toNat)
          case atStart => exact ⟨0, by omega, rfl, by rw [carTo_zero], hO, by rw [carTo_zero]; exact hD, hB⟩
          case round =>
            clear hH hR hO hD hB
            obtain ⟨q, hq5, rfl, rfl, hO, hD, hB⟩ := hrel
            have hcl : (carTo M q).1.length = 5 := by rw [carTo_len, hml]
            by_cases hltq : q < 5
            · have c1 : (q : Int) < 5 := by omega
              go_wp2
              go_roundw
              case rel => exact ⟨q + 1, by omega, by go_num, by rw [carTo_succ2, u64w]; simp only [Value.int.injEq, true_and]; rw [nth_set_eq _ (show q < (carTo M q).1.length by omega)], (by simp (disch := (first | omega | (simp only [World.size_alloc, World.size_drew, size_setRow, World.heap_drewN]; omega) | simp only [World.size_alloc, World.size_drew, size_setRow, World.heap_drewN])) only [World.heap_drewN, heap_drew, heap_alloc_past, heap_alloc_at, heap_setRow_ne, heap_setCell_eq, heap_setCell_ne', putOf_some, set_ints, hO]), by rw [carTo_succ1, u64w]; have hns := nth_set_eq (IntKind.u64.wrap (nth (carTo M q).1 q + (carTo M q).2)) (show q < (carTo M q).1.length by omega); exact (by simp (disch := (first | omega | (simp only [World.size_alloc, World.size_drew, size_setRow, World.heap_drewN]; omega) | simp only [World.size_alloc, World.size_drew, size_setRow, World.heap_drewN])) only [World.heap_drewN, heap_drew, heap_alloc_past, heap_alloc_at, heap_setRow_ne, heap_setCell_eq, heap_setCell_ne', putOf_some, set_ints, hD, hns, List.set_set]), (hB.setCell (by simp; omega) _).setCell (by simp; omega) _⟩
              case measure => simp [intOf]; omega
            · have hq' := Lib.hid (show q = 5 by omega)
              obtain ⟨x, hx⟩ : ∃ x, x = IntKind.u64.wrap (nth (carTo M q).1 0 + IntKind.u64.wrap (5 * (carTo M q).2)) := ⟨_, rfl⟩
              obtain ⟨y, hy⟩ : ∃ y, y = IntKind.u64.wrap (nth (carTo M q).1 1 + x / 67108864) := ⟨_, rfl⟩
              obtain ⟨z, hz⟩ : ∃ z, z = bits .and .u64 x 67108863 := ⟨_, rfl⟩
              have n1 := nth_set_eq x (show 0 < (carTo M q).1.length by omega)
              have n2 : nth ((carTo M q).1.set 0 x) 1 = nth (carTo M q).1 1 := nth_set_ne _ (by decide)
              have n3 : nth (((carTo M q).1.set 0 x).set 1 y) 0 = x := by rw [nth_set_ne _ (by decide), n1]
              have hO' : ∀ a b c : Value, (((wr.setCell ⟨D, 0, none⟩ a).setCell ⟨D, 1, none⟩ b).setCell ⟨D, 0, none⟩ c).heap[w.heap.size + 1 + 1]? = some (.cells (ints .u64 (zerosL 5)) 141 (0, 0)) := fun a b c => by rw [heap_setCell_ne _ _ _ _ (by simp; omega), heap_setCell_ne _ _ _ _ (by simp; omega), heap_setCell_ne _ _ _ _ (by simp; omega)]; exact hO
              go_wp2_with (first | (refine ld_ints rfl (ty := 141) (k := .u64) (t := 141) (fr := (0, 0)) (l := (((carTo M q).1.set 0 x).set 1 y).set 0 z) rfl rfl (by simp only [n1, n2, n3, ← hx, ← hy, ← hz]; exact (by simp (disch := (first | omega | (simp only [World.size_alloc, World.size_drew, size_setRow, World.heap_drewN]; omega) | simp only [World.size_alloc, World.size_drew, size_setRow, World.heap_drewN])) only [World.heap_drewN, heap_drew, heap_alloc_past, heap_alloc_at, heap_setRow_ne, heap_setCell_eq, heap_setCell_ne', putOf_some, set_ints, hD])) Tryd.underlying141 (by kernel_rfl) (by simp [hcl]) ?_) | (refine st_row (n := 5) (g := w.heap.size + 1 + 1) (t := 141) (old := ints .u64 (zerosL 5)) (cs := ints .u64 ((((carTo M q).1.set 0 x).set 1 y).set 0 z)) rfl (ty := 141) rfl ?_ ?_ ?_ ?_ ?_ ?_ ?_ ?_))
              · exact hO' _ _ _
              · kernel_rfl
              · rw [size_ints, zerosL_len]
              · rw [size_ints]; simp [hcl]
              · exact oneCell_ints _ _
              try simp only [Act.put, List.setIfInBounds_toArray, List.set_cons_zero, List.set_cons_succ]
              have hOr := fun a b c => setRow_heap _ _ _ (ints .u64 ((((carTo M q).1.set 0 x).set 1 y).set 0 z)) _ _ (hO' a b c)
              refine end_row (n := 5) rfl rfl (hOr _ _ _) Tryd.underlying141 rfl (by kernel_rfl) (by rw [size_ints]; simp [hcl]) rfl ⟨?_, belowRow (((hB.setCell (by simp; omega) _).setCell (by simp; omega) _).setCell (by simp; omega) _) (by omega) _⟩
              have e1 := hq'.out
              rw [e1, HM.out, hi'.out, HA.out, HL.out, hk'.out] at hx hy
              rw [e1, HM.out, hi'.out, HA.out, HL.out, hk'.out, hz, hy, hx]
              rfl
attribute [irreducible] pblockS endS
end Go.Proofs.YtjieiijbgbkikaaDoor
end
section
/- Package poly: the cells of a Mac; New. -/
namespace Go.Proofs.YtjieiijbgbkikaaDoor
open Go Go.RowKit
set_option maxRecDepth 100000
attribute [local go_sem] cell?_eq frozen?_eq heap_setCell_eq heap_setCell_ne

/-- The cells of a Mac. -/
def macC (r h s : List Int) (v : Value) (n : Int) : Array Value :=
  Array.ofFn (n := 29) fun i => if i.val < 5 then .int .u64 (nth r i) else if i.val < 10 then .int .u64 (nth h (i - 5)) else if i.val < 26 then .int .u8 (nth s (i - 10)) else if i.val = 26 then v else if i.val = 27 then .int .i64 n else .bool true
theorem macC_get (r h s : List Int) (v : Value) (n : Int) (i : Nat) (hi : i < 29) : (macC r h s v n)[i]? = some (if i < 5 then .int .u64 (nth r i) else if i < 10 then .int .u64 (nth h (i - 5)) else if i < 26 then .int .u8 (nth s (i - 10)) else if i = 26 then v else if i = 27 then .int .i64 n else .bool true) := by
  unfold macC
  simp [Array.getElem?_ofFn, hi]
@[go_sem] theorem macC_size (r h s : List Int) (v : Value) (n : Int) : (macC r h s v n).size = 29 := by simp [macC]
theorem macC_at (r h s : List Int) (v : Value) (n : Int) (i : Nat) (hi : i < (macC r h s v n).size) : (macC r h s v n)[i] = (if i < 5 then .int .u64 (nth r i) else if i < 10 then .int .u64 (nth h (i - 5)) else if i < 26 then .int .u8 (nth s (i - 10)) else if i = 26 then v else if i = 27 then .int .i64 n else .bool true) := by
  have h1 := macC_get r h s v n i (by simpa [macC_size] using hi)
  rw [Array.getElem?_eq_getElem hi] at h1
  exact Option.some.inj h1
@[go_sem] theorem macC_26 (r h s : List Int) (v : Value) (n : Int) : (macC r h s v n)[26]? = some v := by rw [macC_get _ _ _ _ _ _ (by decide)]; rfl
@[go_sem] theorem macC_27 (r h s : List Int) (v : Value) (n : Int) : (macC r h s v n)[27]? = some (.int .i64 n) := by rw [macC_get _ _ _ _ _ _ (by decide)]; rfl
@[go_sem] theorem macC_28 (r h s : List Int) (v : Value) (n : Int) : (macC r h s v n)[28]? = some (.bool true) := by rw [macC_get _ _ _ _ _ _ (by decide)]; rfl
@[go_sem] theorem macC_e26 (r h s : List Int) (v : Value) (n : Int) (hi : 26 < (macC r h s v n).size) : (macC r h s v n)[26] = v := macC_at _ _ _ _ _ _ hi
@[go_sem] theorem macC_e27 (r h s : List Int) (v : Value) (n : Int) (hi : 27 < (macC r h s v n).size) : (macC r h s v n)[27] = .int .i64 n := macC_at _ _ _ _ _ _ hi
@[go_sem] theorem macC_e28 (r h s : List Int) (v : Value) (n : Int) (hi : 28 < (macC r h s v n).size) : (macC r h s v n)[28] = .bool true := macC_at _ _ _ _ _ _ hi
theorem macC_s (r h s : List Int) (v : Value) (n : Int) (i : Nat) (hi : i < 16) : (macC r h s v n)[10 + i]? = some (.int .u8 (nth s i)) := by
  rw [macC_get _ _ _ _ _ _ (by omega), if_neg (by omega), if_neg (by omega), if_pos (by omega)]
  congr 3; omega
theorem macC_ext {r h s : List Int} {v : Value} {n : Int} {c : Array Value} (hc : c.size = 29) (hg : ∀ i, i < 29 → c[i]? = (macC r h s v n)[i]?) : c = macC r h s v n := by
  apply Array.ext_getElem?
  intro i
  by_cases hi : i < 29
  · exact hg i hi
  · rw [Array.getElem?_eq_none (by omega), Array.getElem?_eq_none (by rw [macC_size]; omega)]
@[go_sem] theorem macC_set26 (r h s : List Int) (v v' : Value) (n : Int) : (macC r h s v n).setIfInBounds 26 v' = macC r h s v' n := by
  refine macC_ext (by simp [macC_size]) fun i hi => ?_
  rw [Array.getElem?_setIfInBounds, macC_get _ _ _ _ _ _ hi, macC_get _ _ _ _ _ _ hi]
  by_cases h26 : 26 = i
  · subst h26; simp [macC_size]
  · simp [h26, show ¬ i = 26 by omega]
@[go_sem] theorem macC_set27 (r h s : List Int) (v : Value) (n n' : Int) : (macC r h s v n).setIfInBounds 27 (.int .i64 n') = macC r h s v n' := by
  refine macC_ext (by simp [macC_size]) fun i hi => ?_
  rw [Array.getElem?_setIfInBounds, macC_get _ _ _ _ _ _ hi, macC_get _ _ _ _ _ _ hi]
  by_cases h26 : 27 = i
  · subst h26; simp [macC_size]
  · simp [h26, show ¬ i = 27 by omega]
theorem macC_over_r (r h s : List Int) (v : Value) (n : Int) (r' : List Int) (hr : r'.length = 5) : overC (macC r h s v n) 0 (ints .u64 r') = macC r' h s v n := by
  refine macC_ext (by simp [overC, macC_size, hr]) fun i hi => ?_
  rw [macC_get _ _ _ _ _ _ hi]
  unfold overC
  by_cases h1 : i < 5
  · simp [List.getElem?_append, hr, h1, ints, nth]
  · simp [List.getElem?_append, hr, h1, show 5 + (i - 5) = i by omega, macC_get _ _ _ _ _ _ hi]
theorem macC_over_h (r h s : List Int) (v : Value) (n : Int) (h' : List Int) (hh : h'.length = 5) : overC (macC r h s v n) 5 (ints .u64 h') = macC r h' s v n := by
  refine macC_ext (by simp [overC, macC_size, hh]) fun i hi => ?_
  rw [macC_get _ _ _ _ _ _ hi]
  unfold overC
  by_cases h1 : i < 5
  · simp [List.getElem?_append, macC_size, hh, h1, List.getElem?_take, macC_at]
  · by_cases h2 : i < 10
    · simp [List.getElem?_append, macC_size, hh, h1, h2, show i - 5 < 5 by omega, ints, nth]
    · simp [List.getElem?_append, macC_size, hh, h1, h2, show ¬ i - 5 < 5 by omega, show 10 + (i - 5 - 5) = i by omega, macC_get _ _ _ _ _ _ hi]
theorem macC_over_s (r h s : List Int) (v : Value) (n : Int) (s' : List Int) (hs : s'.length = 16) : overC (macC r h s v n) 10 (ints .u8 s') = macC r h s' v n := by
  refine macC_ext (by simp [overC, macC_size, hs]) fun i hi => ?_
  rw [macC_get _ _ _ _ _ _ hi]
  unfold overC
  by_cases h1 : i < 10
  · simp [List.getElem?_append, macC_size, hs, h1, List.getElem?_take, macC_at]
  · by_cases h2 : i < 26
    · simp [List.getElem?_append, macC_size, hs, h1, h2, show ¬ i < 5 by omega, show i - 10 < 16 by omega, ints, nth]
    · simp [List.getElem?_append, macC_size, hs, h1, h2, show ¬ i < 5 by omega, show ¬ i - 10 < 16 by omega, show 26 + (i - 10 - 16) = i by omega, macC_get _ _ _ _ _ _ hi]
theorem macC_ext_r (r h s : List Int) (v : Value) (n : Int) (hr : r.length = 5) : (macC r h s v n).extract 0 (0 + 5) = ints .u64 r := by
  apply Array.ext_getElem?
  intro i
  by_cases hi : i < 5
  · rw [Array.getElem?_extract_of_lt (by simp [macC_size]; omega), macC_at, if_pos (by omega), get_ints_lt _ _ _ (by omega), Nat.zero_add]
  · rw [Array.getElem?_eq_none (by simp [macC_size]; omega), Array.getElem?_eq_none (by simp; omega)]
theorem macC_ext_h (r h s : List Int) (v : Value) (n : Int) (hh : h.length = 5) : (macC r h s v n).extract 5 (5 + 5) = ints .u64 h := by
  apply Array.ext_getElem?
  intro i
  by_cases hi : i < 5
  · rw [Array.getElem?_extract_of_lt (by simp [macC_size]; omega), macC_at, if_neg (by omega), if_pos (by omega), get_ints_lt _ _ _ (by omega)]
    congr 3; omega
  · rw [Array.getElem?_eq_none (by simp [macC_size]; omega), Array.getElem?_eq_none (by simp; omega)]
theorem macC_new : (#[.int .u64 0, .int .u64 0, .int .u64 0, .int .u64 0, .int .u64 0, .int .u64 0, .int .u64 0, .int .u64 0, .int .u64 0, .int .u64 0, .int .u8 0, .int .u8 0, .int .u8 0, .int .u8 0, .int .u8 0, .int .u8 0, .int .u8 0, .int .u8 0, .int .u8 0, .int .u8 0, .int .u8 0, .int .u8 0, .int .u8 0, .int .u8 0, .int .u8 0, .int .u8 0, .slice none 0 0, .int .i64 0, .bool true] : Array Value) = macC (zerosL 5) (zerosL 5) (zerosL 16) (.slice none 0 0) 0 := rfl
theorem five_ints (r : List Int) (hr : r.length = 5) : (#[.int .u64 (nth r 0), .int .u64 (nth r 1), .int .u64 (nth r 2), .int .u64 (nth r 3), .int .u64 (nth r 4)] : Array Value) = ints .u64 r := by
  match r, hr with
  | [_, _, _, _, _], _ => rfl
theorem macC_row_r (r h s : List Int) (v : Value) (n : Int) (hr : r.length = 5) {p0 p1 p2 p3 p4} : (#[(macC r h s v n)[0]'p0, (macC r h s v n)[1]'p1, (macC r h s v n)[2]'p2, (macC r h s v n)[3]'p3, (macC r h s v n)[4]'p4] : Array Value) = ints .u64 r := by
  rw [← five_ints r hr]
  simp only [macC_at]
  rfl
theorem macC_row_h (r h s : List Int) (v : Value) (n : Int) (hh : h.length = 5) {p0 p1 p2 p3 p4} : (#[(macC r h s v n)[5]'p0, (macC r h s v n)[6]'p1, (macC r h s v n)[7]'p2, (macC r h s v n)[8]'p3, (macC r h s v n)[9]'p4] : Array Value) = ints .u64 h := by
  rw [← five_ints h hh]
  simp only [macC_at]
  rfl
attribute [irreducible] macC
theorem clampA_bd {r : List Int} (h : Bd 256 r) (k : Nat) : Bd 256 (clampA r k) := by
  induction k with
  | zero => rw [clampA_zero]; exact h
  | succ k ih => rw [clampA_succ]; exact ih.set _ _ (bits_u8_bd ..).1 (bits_u8_bd ..).2
theorem clampB_bd {r : List Int} (h : Bd 256 r) (k : Nat) : Bd 256 (clampB r k) := by
  induction k with
  | zero => rw [clampB_zero]; exact h
  | succ k ih => rw [clampB_succ]; exact ih.set _ _ (bits_u8_bd ..).1 (bits_u8_bd ..).2
theorem clampS_bd (key : List Int) (h : Bd 256 key) : Bd 256 (clampS key) := by
  unfold clampS; exact clampB_bd (clampA_bd (h.take (by decide) _) _) _
/-- The one-time key's halves. -/
def macR (key : List Int) : List Int := limbsS ((clampS key) ++ [0])
def macS (key : List Int) : List Int := key.drop 16
theorem macR_len (key : List Int) : (macR key).length = 5 := limbsS_len _
theorem macS_len (key : List Int) (hk : key.length = 32) : (macS key).length = 16 := by simp [macS, hk]
set_option maxHeartbeats 8000000 in
theorem pnew_any (key : List Int) (hk : key.length = 32) (hkB : Bd 256 key) (w : World) :
    Calls Tryd.prog 93 #[.agg (ints .u8 key)] w fun e w' => ∃ M, e = .returned (.pointer (some ⟨M, 0, none⟩)) ∧ w.heap.size ≤ M ∧ w'.heap[M]? = some (.cells (macC (macR key) (zerosL 5) (macS key) (.slice none 0 0) 0) 143 (0, 0)) ∧ Below w.heap.size w w' := by
  have hcl := clampS_len key hk
  have hcB := clampS_bd key hkB
  go_enter Tryd.func93, Tryd.ntmps93
  go_wp2_with (first | (refine al_row rfl (T := 144) rfl (cs := ints .u8 (zerosL 17)) (by kernel_rfl) ?_) | (refine al_row rfl (T := 24) rfl (cs := ints .u8 (zerosL 16)) (by kernel_rfl) ?_) | (refine ld_ints rfl (ty := 31) rfl rfl (by exact blk3_0 _ _ _ _) Tryd.underlying31 (by kernel_rfl) hk ?_))
  rw [macC_new]
  refine (clamp_any key hk _).mono ?_
  rintro e w1 ⟨rfl, hB1⟩
  have hK1 := below_block hB1 (blk3_0 _ _ _ _) (by simp; omega)
  have hM1 := below_block hB1 (blk3_1 _ _ _ _) (by simp)
  have hP1 := below_block hB1 (blk3_2 _ _ _ _) (by simp)
  have hB1w : Below w.heap.size w w1 := ((((Below.refl _ _).alloc (Nat.le_refl _) _).alloc (by simp) _).alloc (by simp; omega) _).trans (hB1.mono (by simp; omega))
  have hz1 : w.heap.size + 3 ≤ w1.heap.size := by have := hB1.size; simp at this; omega
  clear hB1
  go_wp2_with (first | (refine al_row rfl (T := 24) rfl (cs := ints .u8 (zerosL 16)) (by kernel_rfl) ?_) | (refine st_row (n := 16) rfl (ty := 24) rfl rfl rfl (by exact heap_alloc_at _ _ _ rfl) (by kernel_rfl) (by rw [size_ints, zerosL_len]) (by rw [size_ints, hcl]) (oneCell_ints _ _) ?_; rw [setRow_alloc_at _ _ _ _ _ rfl]))
  go_still_tail 2, (by kernel_rfl)
  refine cp_seg rfl rfl Tryd.underlying25 (by kernel_rfl) (n := 16) (k := .u8) (src := clampS key) (cs := ints .u8 (zerosL 17)) rfl rfl (by exact (heap_alloc_past _ _ _ (by omega)).trans hP1) (by exact (SL.row_all (by exact heap_alloc_at _ _ _ rfl))) hcl.symm (by decide) (by rw [size_ints, zerosL_len]; omega) ?_
  intro w2 h2 ho2 hz2 hB2
  have hpl : (clampS key ++ [0]).length = 17 := by simp [hcl]
  have hP2 : w2.heap[w.heap.size + 1 + 1]? = some (.cells (ints .u8 (clampS key ++ [0])) 144 (0, 0)) := by
    rw [h2, overC_ints, show List.take 16 (clampS key) = clampS key from List.take_of_length_le (by omega), overL, hcl, List.take_zero, List.nil_append]; rfl
  have hM2 := (ho2 (w.heap.size + 1) (by omega)).trans ((heap_alloc_past _ _ _ (by omega)).trans hM1)
  have hK2 := (ho2 (w.heap.size) (by omega)).trans ((heap_alloc_past _ _ _ (by omega)).trans hK1)
  have hBw : Below w.heap.size w w2 := hB2 _ _ (below_drewN (hB1w.alloc (by omega) _) 1) (by omega)
  have hz2' : w.heap.size + 4 ≤ w2.heap.size := by rw [hz2]; simp; omega
  clear h2 ho2 hz2 hB2 hP1 hM1 hK1 hB1w hz1
  go_wp2_with (refine ld_ints rfl (ty := 144) rfl rfl (by exact hP2) Tryd.underlying144 (by kernel_rfl) hpl ?_)
  refine (limbs_any _ hpl (hcB.append (by decide) (Bd.cons (by decide) (by decide) (Bd.nil (by decide)))) _).mono ?_
  rintro e w3 ⟨rfl, hB3⟩
  have hM3 := below_block hB3 hM2 (by omega)
  have hK3 := below_block hB3 hK2 (by omega)
  have hB3w : Below w.heap.size w w3 := hBw.trans (hB3.mono (by omega))
  have hz3 : w.heap.size + 4 ≤ w3.heap.size := by have := hB3.size; omega
  have hrl : (limbsS (clampS key ++ [0])).length = 5 := limbsS_len _
  clear hB3 hM2 hK2 hBw hz2' hP2
  go_wp2_with (refine st_seg rfl (ty := 141) (off := 0) rfl rfl rfl (by exact hM3) (by rw [size_ints, hrl]; kernel_rfl) (by rw [size_ints, hrl, macC_size]; omega) (oneCell_ints _ _) ?_; rw [macC_over_r _ _ _ _ _ _ hrl])
  try simp only [Act.put, List.setIfInBounds_toArray, List.set_cons_zero, List.set_cons_succ]
  have hM4 := setRow_heap w3 (w.heap.size + 1) _ (macC (limbsS (clampS key ++ [0])) (zerosL 5) (zerosL 16) (.slice none 0 0) 0) _ _ hM3
  have hK4 := (setRow_other w3 (w.heap.size + 1) (w.heap.size) (macC (limbsS (clampS key ++ [0])) (zerosL 5) (zerosL 16) (.slice none 0 0) 0) (by omega)).trans hK3
  have hB4 := belowRow hB3w (show w.heap.size ≤ w.heap.size + 1 by omega) (macC (limbsS (clampS key ++ [0])) (zerosL 5) (zerosL 16) (.slice none 0 0) 0)
  have hz4 : w.heap.size + 4 ≤ (w3.setRow (w.heap.size + 1) (macC (limbsS (clampS key ++ [0])) (zerosL 5) (zerosL 16) (.slice none 0 0) 0)).heap.size := by rw [size_setRow]; exact hz3
  generalize w3.setRow (w.heap.size + 1) (macC (limbsS (clampS key ++ [0])) (zerosL 5) (zerosL 16) (.slice none 0 0) 0) = w4 at *
  clear hM3 hK3 hB3w hz3
  have hsl := macS_len key hk
  go_wp2
  go_still_tail 5, (by kernel_rfl)
  refine cp_seg rfl rfl Tryd.underlying25 (by kernel_rfl) (g := w.heap.size + 1) (off := 10) (n := 16) (k := .u8) (src := macS key) rfl rfl (by exact hM4) (by rw [macS, ← List.take_of_length_le (l := List.drop 16 key) (i := 16) (by simp [hk])]; exact SL.row (off := 16) (n := 16) (by exact hK4) (by omega)) hsl.symm (by decide) (by rw [macC_size]; omega) ?_
  intro w5 h5 ho5 hz5 hB5
  rw [List.take_of_length_le (by omega), macC_over_s _ _ _ _ _ _ hsl] at h5
  have hBw := hB5 _ _ (below_drewN hB4 1) (by omega)
  clear ho5 hB5
  go_wp2
  go_ret
  exact ⟨_, rfl, by omega, h5, hBw⟩
end Go.Proofs.YtjieiijbgbkikaaDoor
end
section
/- Package hkdf: the step over 64 bytes. -/
namespace Go.Proofs.YtjieiijbgbkikaaDoor
open Go Go.RowKit
set_option maxRecDepth 100000
attribute [local go_sem] cell?_eq frozen?_eq heap_setCell_eq heap_setCell_ne

/-- The package's table of constants. -/
def roundF : List Int := [0x428a2f98, 0x71374491, 0xb5c0fbcf, 0xe9b5dba5, 0x3956c25b, 0x59f111f1, 0x923f82a4, 0xab1c5ed5,
  0xd807aa98, 0x12835b01, 0x243185be, 0x550c7dc3, 0x72be5d74, 0x80deb1fe, 0x9bdc06a7, 0xc19bf174,
  0xe49b69c1, 0xefbe4786, 0x0fc19dc6, 0x240ca1cc, 0x2de92c6f, 0x4a7484aa, 0x5cb0a9dc, 0x76f988da,
  0x983e5152, 0xa831c66d, 0xb00327c8, 0xbf597fc7, 0xc6e00bf3, 0xd5a79147, 0x06ca6351, 0x14292967,
  0x27b70a85, 0x2e1b2138, 0x4d2c6dfc, 0x53380d13, 0x650a7354, 0x766a0abb, 0x81c2c92e, 0x92722c85,
  0xa2bfe8a1, 0xa81a664b, 0xc24b8b70, 0xc76c51a3, 0xd192e819, 0xd6990624, 0xf40e3585, 0x106aa070,
  0x19a4c116, 0x1e376c08, 0x2748774c, 0x34b0bcb5, 0x391c0cb3, 0x4ed8aa4a, 0x5b9cca4f, 0x682e6ff3,
  0x748f82ee, 0x78a5636f, 0x84c87814, 0x8cc70208, 0x90befffa, 0xa4506ceb, 0xbef9a3f7, 0xc67178f2]
theorem roundF_len : roundF.length = 64 := rfl
attribute [irreducible] roundF
/-- The variable api.Round reads as its text says. -/
def Rnd (w : World) : Prop := ∃ T fr, w.heap[1]? = some (.cells (ints .u32 roundF) T fr)
theorem Rnd.lt {w : World} (h : Rnd w) : 1 < w.heap.size := by
  obtain ⟨T, fr, h⟩ := h
  exact (Array.getElem?_eq_some_iff.1 h).1
theorem Rnd.below {w w' : World} {B : Nat} (h : Rnd w) (hb : Below B w w') (hB : 1 < B) : Rnd w' := by
  obtain ⟨T, fr, h⟩ := h
  exact ⟨T, fr, (hb.block _ hB).trans h⟩
/-- '^x'. -/
def not32 (a : Int) : Int := bits .xor .u32 (if IntKind.u32.signed = true then -1 else IntKind.u32.max) a
def and32 (a b : Int) : Int := bits .and .u32 a b
def or32 (a b : Int) : Int := bits .or .u32 a b
/-- The word i in the making, j bytes taken. -/
def inA (p w : List Int) (i : Nat) : Nat → List Int
  | 0 => w
  | j + 1 => (inA p w i j).set i (or32 (nth (inA p w i j) i * 256 % 4294967296) (nth p (4 * i + j)))
theorem inA_zero (p w : List Int) (i : Nat) : inA p w i 0 = w := rfl
theorem inA_succ (p w : List Int) (i j : Nat) : inA p w i (j + 1) = (inA p w i j).set i (or32 (nth (inA p w i j) i * 256 % 4294967296) (nth p (4 * i + j))) := rfl
theorem inA_len (p w : List Int) (i j : Nat) : (inA p w i j).length = w.length := by induction j <;> simp [inA, *]
def wA (p : List Int) : Nat → List Int
  | 0 => zerosL 64
  | i + 1 => inA p (wA p i) i 4
theorem wA_zero (p : List Int) : wA p 0 = zerosL 64 := rfl
theorem wA_succ (p : List Int) (i : Nat) : wA p (i + 1) = inA p (wA p i) i 4 := rfl
theorem wA_len (p : List Int) (i : Nat) : (wA p i).length = 64 := by induction i <;> simp [wA, zerosL_len, inA_len, *]
attribute [irreducible] inA wA
/-- The word i out of those before it. -/
def nextW (w : List Int) (i : Nat) : Int :=
  let x := nth w (i - 15)
  let y := nth w (i - 2)
  (nth w (i - 16) + nth w (i - 7) + xor32 (xor32 (rightS x 7) (rightS x 18)) (x / 8) + xor32 (xor32 (rightS y 17) (rightS y 19)) (y / 1024)) % 4294967296
def wB (p : List Int) : Nat → List Int
  | 0 => wA p 16
  | d + 1 => (wB p d).set (16 + d) (nextW (wB p d) (16 + d))
theorem wB_zero (p : List Int) : wB p 0 = wA p 16 := rfl
theorem wB_succ (p : List Int) (d : Nat) : wB p (d + 1) = (wB p d).set (16 + d) (nextW (wB p d) (16 + d)) := rfl
theorem wB_len (p : List Int) (d : Nat) : (wB p d).length = 64 := by induction d <;> simp [wB, wA_len, *]
attribute [irreducible] wB
/-- One of the 64 rounds. -/
def shrT (v : List Int) (k x : Int) : Int :=
  nth v 7 + xor32 (xor32 (rightS (nth v 4) 6) (rightS (nth v 4) 11)) (rightS (nth v 4) 25) + xor32 (and32 (nth v 4) (nth v 5)) (and32 (not32 (nth v 4)) (nth v 6)) + k + x
def rndU (v : List Int) : Int :=
  xor32 (xor32 (rightS (nth v 0) 2) (rightS (nth v 0) 13)) (rightS (nth v 0) 22) + xor32 (xor32 (and32 (nth v 0) (nth v 1)) (and32 (nth v 0) (nth v 2))) (and32 (nth v 1) (nth v 2))
def rndS (v : List Int) (k x : Int) : List Int :=
  [(shrT v k x + rndU v) % 4294967296, nth v 0, nth v 1, nth v 2, (nth v 3 + shrT v k x) % 4294967296, nth v 4, nth v 5, nth v 6]
def vTo (s w : List Int) : Nat → List Int
  | 0 => s
  | k + 1 => rndS (vTo s w k) (nth roundF k) (nth w k)
theorem vTo_zero (s w : List Int) : vTo s w 0 = s := rfl
theorem vTo_succ (s w : List Int) (k : Nat) : vTo s w (k + 1) = rndS (vTo s w k) (nth roundF k) (nth w k) := rfl
theorem vTo_len (s w : List Int) (hs : s.length = 8) (k : Nat) : (vTo s w k).length = 8 := by cases k <;> simp [vTo, rndS, hs]
attribute [irreducible] vTo
def sTo (s v : List Int) : Nat → List Int
  | 0 => s
  | i + 1 => (sTo s v i).set i (add32 (nth (sTo s v i) i) (nth v i))
theorem sTo_zero (s v : List Int) : sTo s v 0 = s := rfl
theorem sTo_succ (s v : List Int) (i : Nat) : sTo s v (i + 1) = (sTo s v i).set i (add32 (nth (sTo s v i) i) (nth v i)) := rfl
theorem sTo_len (s v : List Int) (i : Nat) : (sTo s v i).length = s.length := by induction i <;> simp [sTo, *]
attribute [irreducible] sTo
/-- The state behind 64 bytes. -/
def shaS (s p : List Int) : List Int := sTo s (vTo s (wB p 48) 64) 8
theorem shaS_len (s p : List Int) : (shaS s p).length = s.length := sTo_len _ _ _
theorem add32_bd (a b : Int) : 0 ≤ add32 a b ∧ add32 a b < 4294967296 := by unfold add32; omega

theorem right_still (x n : Int) (w : World) (h0 : 0 ≤ n) (h1 : n ≤ 31) :
    Calls Tryd.prog 111 #[.int .u32 x, .int .u64 n] w fun e w'' => e = .returned (.int .u32 (rightS x n)) ∧ w'' = w :=
  (right_any x n w h0 h1).mono fun _ _ h => ⟨h.1, h.2.symm⟩
theorem quiet_more {P : Program} {f : FuncId} {args : Array Value} {w : World} {a n : Nat} {v : Value} (h : Calls P f args (w.drewN (a + n)) fun e w' => e = .returned v ∧ w' = w.drewN (a + n)) :
    Calls P f args (w.drewN (a + n)) fun e w'' => e = .returned v ∧ ∃ m, w'' = w.drewN (a + m) := h.mono fun _ _ ⟨he, hm⟩ => ⟨he, n, hm⟩
set_option maxHeartbeats 8000000 in
theorem sblock_any (s p : List Int) (hs : s.length = 8) (hp : p.length = 64) (hpB : Bd 256 p) (S : Nat) (w : World) (hR : Rnd w) (hS : w.heap[S]? = some (.cells (ints .u32 s) 158 (0, 0))) :
    Calls Tryd.prog 108 #[.pointer (some ⟨S, 0, none⟩), .agg (ints .u8 p)] w fun e w' => e = .returned (.tuple #[]) ∧ w'.heap[S]? = some (.cells (ints .u32 (shaS s p)) 158 (0, 0)) ∧ Kep (fun k => k = S) w w' := by
  have hSlt := Lib.hid (Array.getElem?_eq_some_iff.1 hS).1
  have hRlt := hR.lt
  go_enter Tryd.func108, Tryd.ntmps108
  go_wp2_with (first | (refine al_row rfl (T := 164) rfl (cs := ints .u32 (zerosL 64)) (by kernel_rfl) ?_))
  have hK0 : Below w.heap.size w ((w.alloc (.cells (ints .u8 p) 129)).alloc (.cells (ints .u32 (zerosL 64)) 164)) := ((Below.refl _ w).alloc (Nat.le_refl _) _).alloc (by simp) _
  go_loopw [5, 7, 22] (fun _ _ i wr => ∃ k : Nat, k ≤ 16 ∧ i = .int .i64 k ∧ wr.heap[w.heap.size]? = some (.cells (ints .u8 p) 129 (0, 0)) ∧ wr.heap[w.heap.size + 1]? = some (.cells (ints .u32 (wA p k)) 164 (0, 0)) ∧ Below w.heap.size w wr) (fun _ _ i _ => 16 - (intOf i).toNat)
  case atStart => exact ⟨0, by omega, rfl, blk2_0 _ _ _, by rw [wA_zero]; exact blk2_1 _ _ _, hK0⟩
  case round =>
    clear hK0
    obtain ⟨k, hk, rfl, hP, hW, hK⟩ := hrel
    by_cases hlt : k < 16
    · have i0 : 4 * (k : Int) ≤ 4 * (k : Int) + 4 := by omega
      have i1 : (0 : Int) ≤ 4 * (k : Int) := by omega
      have i2 : 4 * (k : Int) + 4 ≤ 64 := by omega
      have i3 : (4 * (k : Int)).toNat = 4 * k := by omega
      have i4 : (4 * (k : Int) + 4).toNat = 4 * k + 4 := by omega
      have i5 : 4 * k + 4 - 4 * k = 4 := by omega
      have i6 : ¬ 64 = 4 * k := by omega
      have i7 : (k : Int) < 64 := by omega
      have i8 : k < 64 := by omega
      go_wp2
      go_loopw [7, 32] (fun _ iv wx => ∃ j : Nat, j ≤ 4 ∧ iv = .int .i64 j ∧ wx.heap[w.heap.size]? = some (.cells (ints .u8 p) 129 (0, 0)) ∧ wx.heap[w.heap.size + 1]? = some (.cells (ints .u32 (inA p (wA p k) k j)) 164 (0, 0)) ∧ Below w.heap.size w wx) (fun _ iv _ => 4 - (intOf iv).toNat)
      case atStart => exact ⟨0, by omega, rfl, hP, by rw [inA_zero]; exact hW, hK⟩
      case round =>
        clear hP hW hK
        obtain ⟨j, hj, rfl, hP, hW, hK⟩ := hrel
        have hwl := wA_len p k
        have hil := inA_len p (wA p k) k j
        rw [hwl] at hil
        by_cases hj4 : j < 4
        · have j0 : (j : Int) < 4 := by omega
          have j1 : 4 * k + j < 64 := by omega
          have j2 := hpB (4 * k + j)
          have j3 := j2.1
          have j4 := j2.2
          clear j2
          go_wp2
          go_roundw
          case rel => exact ⟨j + 1, by omega, by go_num, (by simp (disch := (first | omega | (simp only [World.size_alloc, World.size_drew, size_setRow, World.heap_drewN]; omega) | simp only [World.size_alloc, World.size_drew, size_setRow, World.heap_drewN])) only [World.heap_drewN, heap_drew, heap_alloc_past, heap_alloc_at, heap_setRow_ne, heap_setCell_eq, heap_setCell_ne', putOf_some, set_ints, hP]), by rw [inA_succ]; unfold or32; exact (by simp (disch := (first | omega | (simp only [World.size_alloc, World.size_drew, size_setRow, World.heap_drewN]; omega) | simp only [World.size_alloc, World.size_drew, size_setRow, World.heap_drewN])) only [World.heap_drewN, heap_drew, heap_alloc_past, heap_alloc_at, heap_setRow_ne, heap_setCell_eq, heap_setCell_ne', putOf_some, set_ints, hW]), hK.setCell (by simp) _⟩
          case measure => simp [intOf]; omega
        · have Hj := Lib.hid (show j = 4 by omega)
          go_wp2
          go_roundw
          case rel => exact ⟨k + 1, by omega, by go_num, hP, by rw [wA_succ, ← Hj.out]; exact hW, hK⟩
          case measure => simp [intOf]; omega
    · have Hk := Lib.hid (show k = 16 by omega)
      go_wp2
      go_loopw [8, 9, 10] (fun iv _ _ wx => ∃ i d : Nat, d ≤ 48 ∧ Hid (i = 16 + d) ∧ iv = .int .i64 i ∧ wx.heap[w.heap.size + 1]? = some (.cells (ints .u32 (wB p d)) 164 (0, 0)) ∧ Below w.heap.size w wx) (fun iv _ _ _ => 64 - (intOf iv).toNat)
      case atStart => exact ⟨16, 0, by omega, Lib.hid rfl, rfl, by rw [wB_zero, ← Hk.out]; exact hW, hK⟩
      case round =>
        clear hP hW hK
        obtain ⟨i, d, hd, Hi, rfl, hW, hK⟩ := hrel
        have hwl := wB_len p d
        by_cases hd48 : d < 48
        · have hi := Hi.out
          have g0 : (i : Int) < 64 := by omega
          have g1 : 15 ≤ (i : Int) := by omega
          have g2 : 2 ≤ (i : Int) := by omega
          have g3 : 16 ≤ (i : Int) := by omega
          have g4 : 7 ≤ (i : Int) := by omega
          have n1 : ((i : Int) - 15).toNat = i - 15 := by omega
          have n2 : ((i : Int) - 2).toNat = i - 2 := by omega
          have n3 : ((i : Int) - 16).toNat = i - 16 := by omega
          have n4 : ((i : Int) - 7).toNat = i - 7 := by omega
          have w1 : IntKind.i64.wrap ((i : Int) - 15) = (i : Int) - 15 := IntWalk.i64_in _ (by omega)
          have w2 : IntKind.i64.wrap ((i : Int) - 2) = (i : Int) - 2 := IntWalk.i64_in _ (by omega)
          have w3 : IntKind.i64.wrap ((i : Int) - 16) = (i : Int) - 16 := IntWalk.i64_in _ (by omega)
          have w4 : IntKind.i64.wrap ((i : Int) - 7) = (i : Int) - 7 := IntWalk.i64_in _ (by omega)
          have l1 : (i : Int) - 15 < 64 := by omega
          have l2 : (i : Int) - 2 < 64 := by omega
          have l3 : (i : Int) - 16 < 64 := by omega
          have l4 : (i : Int) - 7 < 64 := by omega
          have m1 : i - 15 < 64 := by omega
          have m2 : i - 2 < 64 := by omega
          have m3 : i - 16 < 64 := by omega
          have m4 : i - 7 < 64 := by omega
          have m5 : i < 64 := by omega
          clear hi
          go_wp2
          go_quiet (fail)
          go_wp2
          go_still_tail 28, (by kernel_rfl)
          repeat (first | still_step | still_call (right_still _ _ _ (by omega) (by omega)))
          refine wpStill_nil ?_
          go_wp2
          go_roundw
          case rel =>
            refine ⟨i + 1, d + 1, by omega, Lib.hid (by have := Hi.out; omega), by go_num, ?_, ((below_drewN hK nq).drew).setCell (by simp) _⟩
            rw [wB_succ, ← Hi.out]; unfold nextW xor32; exact (by simp (disch := (first | omega | (simp only [World.size_alloc, World.size_drew, size_setRow, World.heap_drewN]; omega) | simp only [World.size_alloc, World.size_drew, size_setRow, World.heap_drewN])) only [World.heap_drewN, heap_drew, heap_alloc_past, heap_alloc_at, heap_setRow_ne, heap_setCell_eq, heap_setCell_ne', putOf_some, set_ints, hW])
          case measure => simp [intOf]; omega
        · have Hd := Lib.hid (show d = 48 by omega)
          have g0 : 64 ≤ (i : Int) := by have := Hi.out; omega
          have hSa := below_block hK hS hSlt.out
          have hRa := hR.below hK hRlt
          have hSw := Lib.hid (Nat.lt_of_lt_of_le hSlt.out hK.size)
          obtain ⟨TR, fR, hRb⟩ := hRa
          go_wp2_with (first | (refine ld_ints rfl (ty := 158) rfl rfl (by exact hSa) Tryd.underlying158 (by kernel_rfl) hs ?_) | (refine al_row rfl (T := 158) rfl (cs := ints .u32 (zerosL 8)) (by kernel_rfl) ?_) | (refine st_row (n := 8) rfl (ty := 158) rfl rfl rfl (by exact heap_alloc_at _ _ _ rfl) (by kernel_rfl) (by rw [size_ints, zerosL_len]) (by rw [size_ints, hs]) (oneCell_ints _ _) ?_; rw [setRow_alloc_at _ _ _ _ _ rfl]) | (refine ld_ints rfl (ty := 164) rfl rfl (by exact (heap_alloc_past _ _ _ (Array.getElem?_eq_some_iff.1 hRb).1).trans hRb) Tryd.underlying164 (by kernel_rfl) roundF_len ?_))
          have hKa := hK.alloc hK.size (.cells (ints .u32 s) 158)
          have hWa := (heap_alloc_past wr (.cells (ints .u32 s) 158) _ (Array.getElem?_eq_some_iff.1 hW).1).trans hW
          have hSb := (heap_alloc_past wr (.cells (ints .u32 s) 158) _ hSw.out).trans hSa
          have hVa := blk1_0 wr (.cells (ints .u32 s) 158)
          obtain ⟨V, hV⟩ : ∃ V, V = wr.heap.size := ⟨_, rfl⟩
          have hVw : w.heap.size + 1 < V := by rw [hV]; exact (Array.getElem?_eq_some_iff.1 hW).1
          rw [← hV] at hVa ⊢
          generalize wr.alloc (.cells (ints .u32 s) 158) = w2 at *
          clear hRb hSa hW hV hK hS
          go_loopw [92] (fun iv wx => ∃ q : Nat, q ≤ 64 ∧ iv = .int .i64 q ∧ wx.heap[w.heap.size + 1]? = some (.cells (ints .u32 (wB p d)) 164 (0, 0)) ∧ wx.heap[S]? = some (.cells (ints .u32 s) 158 (0, 0)) ∧ wx.heap[V]? = some (.cells (ints .u32 (vTo s (wB p d) q)) 158 (0, 0)) ∧ Below w.heap.size w wx) (fun iv _ => 64 - (intOf iv).toNat)
          case atStart => exact ⟨0, by omega, rfl, hWa, hSb, by rw [vTo_zero]; exact hVa, hKa⟩
          case round =>
            clear hWa hSb hVa hKa hSw
            obtain ⟨q, hq, rfl, hW, hS, hV, hB⟩ := hrel
            have hvl := vTo_len s (wB p d) hs q
            by_cases hq64 : q < 64
            · have hix := fun wx => run_index_ints (P := Tryd.prog) (k := .u32) (T := 164) Tryd.underlying164 Tryd.underlying23 (by kernel_rfl) roundF q hq64 (by rw [roundF_len]; exact hq64) wx
              have q1 : (q : Int) < 64 := by omega
              go_wp2
              go_quiet (fail)
              go_wp2
              go_quiet ((go_at_call 111; exact quiet_more (right_still _ _ _ (by omega) (by omega))))
              go_wp2_with (first | (go_at_call 111; refine (right_any _ _ _ (by omega) (by omega)).mono ?_; rintro e w5 ⟨rfl, rfl⟩) | (refine st_row (n := 8) (cs := ints .u32 [_, _, _, _, _, _, _, _]) rfl (ty := 158) rfl rfl rfl (by exact hV) (by kernel_rfl) (by rw [size_ints, hvl]) (by rw [size_ints]; rfl) (oneCell_ints _ _) ?_))
              go_roundw
              case rel =>
                refine ⟨q + 1, by omega, by go_num, ?_, ?_, ?_, below_drewN (belowRow hB (by omega) _) _⟩
                · exact (setRow_other wr V (w.heap.size + 1) _ (by omega)).trans hW
                · exact (setRow_other wr V S _ (by have := hSlt.out; omega)).trans hS
                · exact (setRow_heap wr V _ _ _ _ hV).trans (by rw [vTo_succ]; unfold rndS shrT rndU xor32 and32 not32; rfl)
              case measure => simp [intOf]; omega
            · have Hq := Lib.hid (show q = 64 by omega)
              go_wp2_with (refine ld_ints rfl (ty := 158) rfl rfl (by exact hV) Tryd.underlying158 (by kernel_rfl) hvl ?_)
              have hKk : Kep (fun k => k = S) w wr := Kep.of_below hB (fun k hk _ => hk)
              obtain ⟨Y, hY⟩ : ∃ Y, Y = vTo s (wB p d) q := ⟨_, rfl⟩
              have hYl : Y.length = 8 := by rw [hY]; exact hvl
              rw [← hY]
              have HY := Lib.hid hY
              clear hY hV hW hvl hB
              go_loopw [170] (fun iv wx => ∃ m : Nat, m ≤ 8 ∧ iv = .int .i64 m ∧ wx.heap[S]? = some (.cells (ints .u32 (sTo s Y m)) 158 (0, 0)) ∧ Kep (fun k => k = S) w wx) (fun iv _ => 8 - (intOf iv).toNat)
              case atStart => exact ⟨0, by omega, rfl, by rw [sTo_zero]; exact hS, hKk⟩
              case round =>
                clear hS hKk
                obtain ⟨m, hm, rfl, hS, hK⟩ := hrel
                have hsl := sTo_len s Y m
                rw [hs] at hsl
                by_cases hm8 : m < 8
                · have hix := fun wx => run_index_ints (P := Tryd.prog) (k := .u32) (T := 158) Tryd.underlying158 Tryd.underlying23 (by kernel_rfl) Y m hm8 (by rw [hYl]; exact hm8) wx
                  have m1 : (m : Int) < 8 := by omega
                  go_wp2
                  go_still_tail 8, (by kernel_rfl)
                  go_wp2
                  go_roundw
                  case rel =>
                    refine ⟨m + 1, by omega, by go_num, ?_, (hK.drew).setCell (.inl rfl) _⟩
                    rw [sTo_succ]; unfold add32; exact (by simp (disch := (first | omega | (simp only [World.size_alloc, World.size_drew, size_setRow, World.heap_drewN]; omega) | simp only [World.size_alloc, World.size_drew, size_setRow, World.heap_drewN])) only [World.heap_drewN, heap_drew, heap_alloc_past, heap_alloc_at, heap_setRow_ne, heap_setCell_eq, heap_setCell_ne', putOf_some, set_ints, hS])
                  case measure => simp [intOf]; omega
                · have Hm := Lib.hid (show m = 8 by omega)
                  go_wp2
                  go_end0
                  refine ⟨rfl, ?_, hK⟩
                  rw [shaS, ← Hd.out, ← Hq.out, ← HY.out, ← Hm.out]; exact hS
attribute [irreducible] shaS
end Go.Proofs.YtjieiijbgbkikaaDoor
end
