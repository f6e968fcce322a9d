/- Lemmas of a proof over the given program, joined by wip/join.py: KBlock KXor KPolyA KPolyB. -/
import Derived.Test.YtjieiijbgbkikaaDoorJ01
import Derived.Test.YtjieiijbgbkikaaDoorJ05
set_option linter.unusedSimpArgs false
set_option linter.unusedVariables false
section
/- What chacha.Block computes: sixty-four bytes of the stream. -/
namespace Go.Proofs.YtjieiijbgbkikaaDoor
open Go Go.RowKit
set_option maxRecDepth 100000

theorem Cols.lt {w : World} (h : Cols w) : 0 < w.heap.size := by
  obtain ⟨T, fr, h⟩ := h
  exact (Array.getElem?_eq_some_iff.1 h).1
theorem Cols.below {w w' : World} {B : Nat} (h : Cols w) (hb : Below B w w') (hB : 0 < B) : Cols w' := by
  obtain ⟨T, fr, h⟩ := h
  exact ⟨T, fr, (hb.block _ hB).trans h⟩
theorem below_block {B : Nat} {w w' : World} {b : Nat} {x : Option Obj} (hb : Below B w w') (h : w.heap[b]? = x) (hB : b < B) : w'.heap[b]? = x := (hb.block b hB).trans h

/-- Ten rounds. -/
def tenTo (s : List Int) : Nat → List Int
  | 0 => s
  | k + 1 => roundS (tenTo s k)
theorem tenTo_len (s : List Int) (k : Nat) : (tenTo s k).length = s.length := by induction k <;> simp [tenTo, roundS_len, *]
/-- The bytes of k words. -/
def outTo (first s : List Int) : Nat → List Int
  | 0 => zerosL 64
  | k + 1 =>
    ((((outTo first s k).set (4 * k) ((nth s k + nth first k) % 256)).set (4 * k + 1) (add32 (nth s k) (nth first k) / 256 % 256)).set (4 * k + 2) (add32 (nth s k) (nth first k) / 65536 % 256)).set (4 * k + 3) (add32 (nth s k) (nth first k) / 16777216)
theorem outTo_len (first s : List Int) (k : Nat) : (outTo first s k).length = 64 := by induction k <;> simp [outTo, zerosL_len, *]
def blockS (key : List Int) (c : Int) (nonce : List Int) : List Int := outTo (stateS key c nonce) (tenTo (stateS key c nonce) 10) 16
theorem blockS_len (key : List Int) (c : Int) (nonce : List Int) : (blockS key c nonce).length = 64 := outTo_len _ _ _

attribute [local go_sem] cell?_eq frozen?_eq heap_setCell_eq heap_setCell_ne
set_option maxHeartbeats 4000000 in
theorem block_any (key nonce : List Int) (hk : key.length = 32) (hn : nonce.length = 12) (hkB : Bd 256 key) (hnB : Bd 256 nonce) (c : Int) (w : World) (hC : Cols w) :
    Calls Tryd.prog 92 #[.agg (ints .u8 key), .int .u32 c, .agg (ints .u8 nonce)] w fun e w' => e = .returned (.agg (ints .u8 (blockS key c nonce))) ∧ Below w.heap.size w w' := by
  have hw := hC.lt
  go_enter Tryd.func92, Tryd.ntmps92
  go_wp2_with (first | (refine al_row rfl (T := 129) rfl (cs := ints .u8 (zerosL 64)) (by kernel_rfl) ?_) | (refine ld_ints rfl (ty := 31) rfl rfl (by exact blk3_0 _ _ _ _) Tryd.underlying31 (by kernel_rfl) hk ?_) | (refine ld_ints rfl (ty := 62) rfl rfl (by exact blk3_1 _ _ _ _) Tryd.underlying62 (by kernel_rfl) hn ?_))
  refine (state_any key nonce hk hn hkB hnB c _).mono ?_
  rintro e w1 ⟨rfl, hB1⟩
  have hO1 := below_block hB1 (blk3_2 _ _ _ _) (by simp)
  have hB1w : Below w.heap.size w w1 := ((((Below.refl _ _).alloc (Nat.le_refl _) _).alloc (by simp) _).alloc (by simp; omega) _).trans (hB1.mono (by simp; omega))
  have hz1 : w.heap.size + 3 ≤ w1.heap.size := by have := hB1.size; simp at this; omega
  clear hB1
  go_wp2_with (first | (refine al_row rfl (T := 138) rfl (cs := ints .u32 (zerosL 16)) (by kernel_rfl) ?_) | (refine st_row (n := 16) rfl (ty := 138) rfl rfl rfl (by exact heap_alloc_at _ _ _ rfl) (by kernel_rfl) (by rw [size_ints, zerosL_len]) (by rw [size_ints, stateS_len]) (oneCell_ints _ _) ?_; rw [setRow_alloc_at _ _ _ _ _ rfl]) | (refine ld_ints rfl (ty := 138) rfl rfl (by exact heap_alloc_at _ _ _ rfl) Tryd.underlying138 (by kernel_rfl) (stateS_len _ _ _) ?_))
  go_loopw [16] (fun i wr => ∃ k : Nat, k ≤ 10 ∧ i = .int .i64 k ∧ wr.heap[w.heap.size + 1 + 1]? = some (.cells (ints .u8 (zerosL 64)) 129 (0, 0)) ∧ wr.heap[w1.heap.size]? = some (.cells (ints .u32 (stateS key c nonce)) 138 (0, 0)) ∧
      wr.heap[w1.heap.size + 1]? = some (.cells (ints .u32 (tenTo (stateS key c nonce) k)) 138 (0, 0)) ∧ Below w.heap.size w wr ∧ w1.heap.size + 2 ≤ wr.heap.size) (fun i _ => 10 - (intOf i).toNat)
  case atStart => exact ⟨0, by omega, rfl, (by simp (disch := (first | omega | (simp only [World.size_alloc, World.size_drew, size_setRow, World.heap_drewN]; omega) | simp only [World.size_alloc, World.size_drew, size_setRow, World.heap_drewN])) only [World.heap_drewN, heap_drew, heap_alloc_past, heap_alloc_at, heap_setRow_ne, heap_setCell_eq, heap_setCell_ne', putOf_some, set_ints, hO1]), (by simp (disch := (first | omega | (simp only [World.size_alloc, World.size_drew, size_setRow, World.heap_drewN]; omega) | simp only [World.size_alloc, World.size_drew, size_setRow, World.heap_drewN])) only [World.heap_drewN, heap_drew, heap_alloc_past, heap_alloc_at, heap_setRow_ne, heap_setCell_eq, heap_setCell_ne', putOf_some, set_ints, ]), (by simp (disch := (first | omega | (simp only [World.size_alloc, World.size_drew, size_setRow, World.heap_drewN]; omega) | simp only [World.size_alloc, World.size_drew, size_setRow, World.heap_drewN])) only [World.heap_drewN, heap_drew, heap_alloc_past, heap_alloc_at, heap_setRow_ne, heap_setCell_eq, heap_setCell_ne', putOf_some, set_ints, tenTo]), ((hB1w.alloc (by omega) _).alloc (by simp; omega) _), by simp⟩
  case round =>
    obtain ⟨k, hk10, rfl, hO, hS, hT, hB, hZ⟩ := hrel
    have hlen : (tenTo (stateS key c nonce) k).length = 16 := by rw [tenTo_len, stateS_len]
    by_cases hlt : k < 10
    · go_wp2_with (first | (refine ld_ints rfl (ty := 138) rfl rfl (by exact hT) Tryd.underlying138 (by kernel_rfl) hlen ?_) | (go_at_call 99; refine (round_any _ hlen _ (hC.below hB hw) (hC.below hB hw).lt).mono ?_; rintro e w2 ⟨rfl, hB2⟩) | (refine st_row (n := 16) rfl (ty := 138) rfl rfl rfl (by exact below_block hB2 hT (by omega)) (by kernel_rfl) (by rw [size_ints, hlen]) (by rw [size_ints, roundS_len, hlen]) (oneCell_ints _ _) ?_))
      go_roundw
      case rel => exact ⟨k + 1, by omega, by go_num, (by simp (disch := (first | omega | (simp only [World.size_alloc, World.size_drew, size_setRow, World.heap_drewN]; omega) | simp only [World.size_alloc, World.size_drew, size_setRow, World.heap_drewN])) only [World.heap_drewN, heap_drew, heap_alloc_past, heap_alloc_at, heap_setRow_ne, heap_setCell_eq, heap_setCell_ne', putOf_some, set_ints, below_block hB2 hO (by omega)]), (by simp (disch := (first | omega | (simp only [World.size_alloc, World.size_drew, size_setRow, World.heap_drewN]; omega) | simp only [World.size_alloc, World.size_drew, size_setRow, World.heap_drewN])) only [World.heap_drewN, heap_drew, heap_alloc_past, heap_alloc_at, heap_setRow_ne, heap_setCell_eq, heap_setCell_ne', putOf_some, set_ints, below_block hB2 hS (by omega)]), by exact setRow_heap _ _ _ _ _ _ (below_block hB2 hT (by omega)), belowRow (hB.trans (hB2.mono (by have := hB.size; omega))) (by omega) _, by have := hB2.size; rw [size_setRow]; omega⟩
      case measure => simp [intOf]; omega
    · have hk' := Lib.hid (show k = 10 by omega)
      go_wp2_with (refine ld_ints rfl (ty := 138) rfl rfl (by exact hT) Tryd.underlying138 (by kernel_rfl) hlen ?_)
      clear hT
      go_loopw [9, 10, 22] (fun _ _ i wx => ∃ j : Nat, j ≤ 16 ∧ i = .int .i64 j ∧ wx.heap[w.heap.size + 1 + 1]? = some (.cells (ints .u8 (outTo (stateS key c nonce) (tenTo (stateS key c nonce) k) j)) 129 (0, 0)) ∧ wx.heap[w1.heap.size]? = some (.cells (ints .u32 (stateS key c nonce)) 138 (0, 0)) ∧
        Below w.heap.size w wx) (fun _ _ i _ => 16 - (intOf i).toNat)
      case atStart => exact ⟨0, by omega, rfl, hO, hS, hB⟩
      case round =>
        have hk'' := hk'
        clear hO hS hB hZ hk'
        obtain ⟨j, hj16, rfl, hO, hS, hB⟩ := hrel
        have hol := outTo_len (stateS key c nonce) (tenTo (stateS key c nonce) k) j
        by_cases hj : j < 16
        · have hix := fun wx => run_index_ints (P := Tryd.prog) (k := .u32) (T := 138) Tryd.underlying138 Tryd.underlying23 (by kernel_rfl) (tenTo (stateS key c nonce) k) j hj (by omega) wx
          have hsl := stateS_len key c nonce
          have j2 : (j : Int) < 16 := by omega
          have b0 : (4 : Int) * ↑j < 64 := by omega
          have b1 : (4 : Int) * ↑j + 1 < 64 := by omega
          have b2 : (4 : Int) * ↑j + 2 < 64 := by omega
          have b3 : (4 : Int) * ↑j + 3 < 64 := by omega
          have n0 : 4 * j < 64 := by omega
          have n1 : 4 * j + 1 < 64 := by omega
          have n2 : 4 * j + 2 < 64 := by omega
          have n3 : 4 * j + 3 < 64 := by omega
          have a0 : (0 : Int) ≤ 4 * ↑j := by omega
          have a1 : (0 : Int) ≤ 4 * ↑j + 1 := by omega
          have a2 : (0 : Int) ≤ 4 * ↑j + 2 := by omega
          have a3 : (0 : Int) ≤ 4 * ↑j + 3 := by omega
          go_wp2
          go_roundw
          case rel =>
            refine ⟨j + 1, by omega, by go_num, ?_, ?_, ?_⟩
            · simp only [heap_setCell_eq, hO, putOf_some, set_ints]; rfl
            · rw [heap_setCell_ne _ _ _ _ (by simp; omega), heap_setCell_ne _ _ _ _ (by simp; omega), heap_setCell_ne _ _ _ _ (by simp; omega), heap_setCell_ne _ _ _ _ (by simp; omega)]; exact hS
            · exact (((hB.setCell (by simp; omega) _).setCell (by simp; omega) _).setCell (by simp; omega) _).setCell (by simp; omega) _
          case measure => simp [intOf]; omega
        · have hj' := Lib.hid (show j = 16 by omega)
          go_wp2_with (first | (refine ld_ints rfl (ty := 129) rfl rfl (by exact hO) Tryd.underlying129 (by kernel_rfl) hol ?_) | (refine st_row (n := 64) rfl (ty := 129) rfl rfl rfl (by exact hO) (by kernel_rfl) (by rw [size_ints, hol]) (by rw [size_ints, hol]) (oneCell_ints _ _) ?_))
          refine end_row (n := 64) rfl rfl (setRow_heap _ _ _ _ 129 (0,0) (by exact hO)) Tryd.underlying129 rfl (by kernel_rfl) (by rw [size_ints, hol]) rfl ⟨?_, belowRow hB (by omega) _⟩
          rw [hj'.out, hk''.out]; rfl
attribute [irreducible] blockS outTo tenTo
end Go.Proofs.YtjieiijbgbkikaaDoor
end
section
/- What chacha.Xor computes: bytes and the stream. -/
namespace Go.Proofs.YtjieiijbgbkikaaDoor
open Go Go.RowKit
set_option maxRecDepth 100000

/-- The first m bytes. -/
def xorTo (key nonce : List Int) (c : Int) (l : List Int) : Nat → List Int
  | 0 => zerosL l.length
  | m + 1 => (xorTo key nonce c l m).set m (bits .xor .u8 (nth l m) (nth (blockS key (c + (m / 64 : Nat)) nonce) (m % 64)))
theorem xorTo_len (key nonce : List Int) (c : Int) (l : List Int) (m : Nat) : (xorTo key nonce c l m).length = l.length := by induction m <;> simp [xorTo, zerosL_len, *]
def xorS (key nonce : List Int) (c : Int) (l : List Int) : List Int := xorTo key nonce c l l.length
theorem xorS_len (key nonce : List Int) (c : Int) (l : List Int) : (xorS key nonce c l).length = l.length := xorTo_len _ _ _ _ _

theorem xorTo_zero (key nonce : List Int) (c : Int) (l : List Int) : xorTo key nonce c l 0 = zerosL l.length := rfl
theorem xorTo_succ (key nonce : List Int) (c : Int) (l : List Int) (m : Nat) : xorTo key nonce c l (m + 1) = (xorTo key nonce c l m).set m (bits .xor .u8 (nth l m) (nth (blockS key (c + (m / 64 : Nat)) nonce) (m % 64))) := rfl
attribute [irreducible] xorTo
attribute [local go_sem] cell?_eq frozen?_eq heap_setCell_eq heap_setCell_ne
set_option maxHeartbeats 4000000 in
theorem xor_any (key nonce : List Int) (hk : key.length = 32) (hn : nonce.length = 12) (hkB : Bd 256 key) (hnB : Bd 256 nonce) (c : Int) (hc0 : 0 ≤ c) (hc1 : c ≤ 1) (l : List Int) (hl : l.length ≤ 1048576) (p : Option Addr) (cap : Nat) (w : World)
    (hC : Cols w) (hS : SL .u8 w p l) :
    Calls Tryd.prog 45 #[.agg (ints .u8 key), .int .u32 c, .agg (ints .u8 nonce), .slice p l.length cap] w fun e w' =>
      ∃ p' cap', e = .returned (.tuple #[.slice p' l.length cap', .int .i64 0]) ∧ Own w.heap.size w' 5 .u8 (.slice p' l.length cap') (xorS key nonce c l) ∧ Below w.heap.size w w' := by
  have hw := hC.lt
  have hl' : (l.length : Int) ≤ 1048576 := by omega
  have hmk := fun wx => run_make_ints (P := Tryd.prog) (T := 25) (k := .u8) (by' := 1) Tryd.underlying25 (E := 5) (by kernel_rfl) l.length (by omega) (by omega) wx
  go_enter Tryd.func45, Tryd.ntmps45
  go_wp2
  have hz0 : w.heap.size < w.heap.size + 3 := by omega
  go_loopw [1, 12] (fun x i wr => ∃ q : Nat, 64 * q ≤ l.length + 63 ∧ i = .int .i64 (64 * (q : Int)) ∧ x = .int .u32 (c + (q : Int)) ∧ wr.heap[w.heap.size + 1 + 1]? = some (.cells (ints .u8 (xorTo key nonce c l (min (64 * q) l.length))) 5 (0, 0)) ∧
      wr.heap[w.heap.size]? = some (.cells (ints .u8 key) 31 (0, 0)) ∧ wr.heap[w.heap.size + 1]? = some (.cells (ints .u8 nonce) 62 (0, 0)) ∧ Below w.heap.size w wr ∧ w.heap.size + 3 ≤ wr.heap.size) (fun _ i _ => l.length + 64 - (intOf i).toNat)
  case atStart => exact ⟨0, by omega, rfl, by simp, by rw [show min (64 * 0) l.length = 0 by simp, xorTo_zero]; exact blk3_2 _ _ _ _, by exact blk3_0 _ _ _ _, by exact blk3_1 _ _ _ _, (((Below.refl _ _).alloc (Nat.le_refl _) _).alloc (by simp) _).alloc (by simp; omega) _, by simp⟩
  case round =>
    obtain ⟨q, hq, rfl, rfl, hO, hK, hN, hB, hZ⟩ := hrel
    have q0 : (0 : Int) ≤ 64 * (q : Int) := by omega
    have q1 : 64 * (q : Int) ≤ 1048639 := by omega
    have q2 : c + (q : Int) ≤ 70000 := by omega
    have q3 : 0 ≤ c + (q : Int) := by omega
    by_cases hlt : 64 * q < l.length
    · have hlt' : 64 * (q : Int) < (l.length : Int) := by omega
      go_wp2_with (first | (refine ld_ints rfl (ty := 31) rfl rfl (by exact hK) Tryd.underlying31 (by kernel_rfl) hk ?_) | (refine ld_ints rfl (ty := 62) rfl rfl (by exact hN) Tryd.underlying62 (by kernel_rfl) hn ?_) | (refine al_row rfl (T := 129) rfl (cs := ints .u8 (zerosL 64)) (by kernel_rfl) ?_) | (go_at_call 92; refine (block_any key nonce hk hn hkB hnB _ _ (hC.below hB hw)).mono ?_; rintro e w2 ⟨rfl, hB2⟩) | (refine st_row (n := 64) rfl (ty := 129) rfl rfl rfl (by exact heap_alloc_at _ _ _ rfl) (by kernel_rfl) (by rw [size_ints, zerosL_len]) (by rw [size_ints, blockS_len]) (oneCell_ints _ _) ?_; rw [setRow_alloc_at _ _ _ _ _ rfl]))
      have hO2 := below_block hB2 hO (by omega)
      have hK2 := below_block hB2 hK (by omega)
      have hN2 := below_block hB2 hN (by omega)
      have hB2w : Below w.heap.size w w2 := hB.trans (hB2.mono (by have := hB.size; omega))
      have hZ2 : w.heap.size + 3 ≤ w2.heap.size := by have := hB2.size; omega
      obtain ⟨E, hE⟩ : ∃ E : Nat, E = min (64 * q + 64) l.length := ⟨_, rfl⟩
      have hE1 : E ≤ l.length := by omega
      have hE2 : E ≤ 64 * q + 64 := by omega
      have HE := Lib.hid hE
      clear hE hO hK hN hB hZ hB2
      go_loopw [14] (fun i wx => ∃ m : Nat, 64 * q ≤ m ∧ m ≤ E ∧ i = .int .i64 m ∧ wx.heap[w.heap.size + 1 + 1]? = some (.cells (ints .u8 (xorTo key nonce c l m)) 5 (0, 0)) ∧ wx.heap[w2.heap.size]? = some (.cells (ints .u8 (blockS key (c + (q : Int)) nonce)) 129 (0, 0)) ∧
        wx.heap[w.heap.size]? = some (.cells (ints .u8 key) 31 (0, 0)) ∧ wx.heap[w.heap.size + 1]? = some (.cells (ints .u8 nonce) 62 (0, 0)) ∧ Below w.heap.size w wx ∧ w.heap.size + 3 ≤ wx.heap.size) (fun i _ => E - (intOf i).toNat)
      case atStart => exact ⟨64 * q, by omega, by have := HE.out; omega, by go_num, by rw [show xorTo key nonce c l (64 * q) = xorTo key nonce c l (min (64 * q) l.length) by rw [Nat.min_eq_left (by omega)]]; exact (by simp (disch := (first | omega | (simp only [World.size_alloc, World.size_drew, size_setRow, World.heap_drewN]; omega) | simp only [World.size_alloc, World.size_drew, size_setRow, World.heap_drewN])) only [World.heap_drewN, heap_drew, heap_alloc_past, heap_alloc_at, heap_setRow_ne, heap_setCell_eq, heap_setCell_ne', putOf_some, set_ints, hO2]), (by simp (disch := (first | omega | (simp only [World.size_alloc, World.size_drew, size_setRow, World.heap_drewN]; omega) | simp only [World.size_alloc, World.size_drew, size_setRow, World.heap_drewN])) only [World.heap_drewN, heap_drew, heap_alloc_past, heap_alloc_at, heap_setRow_ne, heap_setCell_eq, heap_setCell_ne', putOf_some, set_ints, ]), (by simp (disch := (first | omega | (simp only [World.size_alloc, World.size_drew, size_setRow, World.heap_drewN]; omega) | simp only [World.size_alloc, World.size_drew, size_setRow, World.heap_drewN])) only [World.heap_drewN, heap_drew, heap_alloc_past, heap_alloc_at, heap_setRow_ne, heap_setCell_eq, heap_setCell_ne', putOf_some, set_ints, hK2]), (by simp (disch := (first | omega | (simp only [World.size_alloc, World.size_drew, size_setRow, World.heap_drewN]; omega) | simp only [World.size_alloc, World.size_drew, size_setRow, World.heap_drewN])) only [World.heap_drewN, heap_drew, heap_alloc_past, heap_alloc_at, heap_setRow_ne, heap_setCell_eq, heap_setCell_ne', putOf_some, set_ints, hN2]), hB2w.alloc (by omega) _, by simp; omega⟩
      case round =>
        clear hO2 hK2 hN2 hB2w
        obtain ⟨m, hm0, hmE, rfl, hO, hX, hK, hN, hB, hZ⟩ := hrel
        have hol := xorTo_len key nonce c l m
        have hbl := blockS_len key (c + (q : Int)) nonce
        by_cases hm : m < E
        · have hE' := HE.out
          have m0 : (m : Int) < (l.length : Int) := by omega
          have m1 : (m : Int) < 64 * (q : Int) + 64 := by omega
          have m2 : (m : Int) - 64 * (q : Int) < 64 := by omega
          have m3 : (0 : Int) ≤ (m : Int) - 64 * (q : Int) := by omega
          have m4 : m < l.length := by omega
          have m5 : m - 64 * q < 64 := by omega
          have m6 : 64 * (q : Int) ≤ (m : Int) := by omega
          have hw1 : IntKind.i64.wrap ((m : Int) - 64 * (q : Int)) = (m : Int) - 64 * (q : Int) := IntWalk.i64_in _ (by omega)
          have hw2 : ((m : Int) - 64 * (q : Int)).toNat = m - 64 * q := by omega
          clear hE'
          obtain ⟨b, off, rfl, hcell⟩ := hS.open m4
          have hcm := hcell m m4
          have hb0 : b < w.heap.size := World.block_lt_of_cell? w ⟨b, off + m, none⟩ hcm
          have hcx : wr.cell? ⟨b, off + m, none⟩ = some (.int .u8 (nth l m)) := (hB.cell (p := ⟨b, off + m, none⟩) hb0).trans hcm
          have hcy := hcx
          rw [cell?_eq] at hcy
          clear hcell hcm
          go_wp2
          all_goals
            go_still_tail 12, (by kernel_rfl)
            go_wp2
            go_roundw
            case rel =>
              have hd : m / 64 = q := by omega
              have hd2 : m % 64 = m - 64 * q := by omega
              refine ⟨m + 1, by omega, by omega, by go_num, ?_, (by simp (disch := (first | omega | (simp only [World.size_alloc, World.size_drew, size_setRow, World.heap_drewN]; omega) | simp only [World.size_alloc, World.size_drew, size_setRow, World.heap_drewN])) only [World.heap_drewN, heap_drew, heap_alloc_past, heap_alloc_at, heap_setRow_ne, heap_setCell_eq, heap_setCell_ne', putOf_some, set_ints, hX]), (by simp (disch := (first | omega | (simp only [World.size_alloc, World.size_drew, size_setRow, World.heap_drewN]; omega) | simp only [World.size_alloc, World.size_drew, size_setRow, World.heap_drewN])) only [World.heap_drewN, heap_drew, heap_alloc_past, heap_alloc_at, heap_setRow_ne, heap_setCell_eq, heap_setCell_ne', putOf_some, set_ints, hK]), (by simp (disch := (first | omega | (simp only [World.size_alloc, World.size_drew, size_setRow, World.heap_drewN]; omega) | simp only [World.size_alloc, World.size_drew, size_setRow, World.heap_drewN])) only [World.heap_drewN, heap_drew, heap_alloc_past, heap_alloc_at, heap_setRow_ne, heap_setCell_eq, heap_setCell_ne', putOf_some, set_ints, hN]), (hB.setCell (by simp; omega) _).drew, by simpa using hZ⟩
              rw [xorTo_succ, hd, hd2]; exact (by simp (disch := (first | omega | (simp only [World.size_alloc, World.size_drew, size_setRow, World.heap_drewN]; omega) | simp only [World.size_alloc, World.size_drew, size_setRow, World.heap_drewN])) only [World.heap_drewN, heap_drew, heap_alloc_past, heap_alloc_at, heap_setRow_ne, heap_setCell_eq, heap_setCell_ne', putOf_some, set_ints, hO])
            case measure => simp [intOf]; omega
        · have hmE' := Lib.hid (show m = E by omega)
          have hE' := HE.out
          have m0 : ¬ ((m : Int) < (if (l.length : Int) < 64 * (q : Int) + 64 then (l.length : Int) else 64 * (q : Int) + 64)) := by split <;> omega
          clear hE'
          go_wp2
          go_roundw
          case rel =>
            refine ⟨q + 1, by omega, by go_num, by go_num, ?_, hK, hN, hB, hZ⟩
            have h1 := HE.out
            have h2 := hmE'.out
            rw [show min (64 * (q + 1)) l.length = m by omega]; exact hO
          case measure => simp [intOf]; omega
    · have hge : ¬ (64 * (q : Int) < (l.length : Int)) := by omega
      go_wp2
      refine bodyPost_ret (v := .tuple #[.slice (some ⟨w.heap.size + 1 + 1, 0, none⟩) l.length l.length, .int .i64 0]) (by simp [results, Tryd.results45, go_sem]) rfl ⟨_, _, rfl, ?_, hB⟩
      rw [Nat.min_eq_right (by omega)] at hO
      have := Own.of_row (base := w.heap.size) hO (by omega) (by rw [xorTo_len]; unfold maxLen; omega)
      rw [xorTo_len] at this
      exact this
end Go.Proofs.YtjieiijbgbkikaaDoor
end
section
/- Package poly: word, limbs, Clamp, Equal. -/
namespace Go.Proofs.YtjieiijbgbkikaaDoor
open Go Go.RowKit
set_option maxRecDepth 100000
attribute [local go_sem] cell?_eq frozen?_eq heap_setCell_eq heap_setCell_ne

def word64 (x0 x1 x2 x3 : Int) : Int := bits BinOp.or .u64 (bits .or .u64 (bits .or .u64 x0 (x1 * 256)) (x2 * 65536)) (x3 * 16777216)
theorem pword_any (b off len cap : Nat) (x0 x1 x2 x3 : Int) (w : World) (h4 : 4 ≤ len) (h0 : cellOf w.heap[b]? off = some (.int .u8 x0)) (h1 : cellOf w.heap[b]? (off+1) = some (.int .u8 x1))
    (h2 : cellOf w.heap[b]? (off+2) = some (.int .u8 x2)) (h3 : cellOf w.heap[b]? (off+3) = some (.int .u8 x3))
    (b0 : 0 ≤ x0 ∧ x0 < 256) (b1 : 0 ≤ x1 ∧ x1 < 256) (b2 : 0 ≤ x2 ∧ x2 < 256) (b3 : 0 ≤ x3 ∧ x3 < 256) :
    Calls Tryd.prog 103 #[.slice (some ⟨b, off, none⟩) len cap] w fun e w' => e = .returned (.int .u64 (word64 x0 x1 x2 x3)) ∧ Quiet w w' := by
  obtain ⟨b00, b01⟩ := b0; obtain ⟨b10, b11⟩ := b1; obtain ⟨b20, b21⟩ := b2; obtain ⟨b30, b31⟩ := b3
  go_enter Tryd.func103, Tryd.ntmps103
  go_wp2
  go_quiet (fail)
  go_wp2
  go_ret
  exact ⟨rfl, _, rfl⟩
/-- Four bytes at i, the lowest first. -/
def word64At (l : List Int) (i : Nat) : Int := word64 (nth l i) (nth l (i+1)) (nth l (i+2)) (nth l (i+3))
theorem pword_cells (w : World) (b i len cap : Nat) (l : List Int) (j : Nat) (hc : ∀ x, x < 4 → cellOf w.heap[b]? (i + x) = some (.int .u8 (nth l (j + x)))) (hB : Bd 256 l) (h4 : 4 ≤ len) :
    Calls Tryd.prog 103 #[.slice (some ⟨b, i, none⟩) len cap] w fun e w' => e = .returned (.int .u64 (word64At l j)) ∧ Quiet w w' :=
  pword_any b i len cap _ _ _ _ w h4 (hc 0 (by omega)) (hc 1 (by omega)) (hc 2 (by omega)) (hc 3 (by omega)) (hB _) (hB _) (hB _) (hB _)
theorem pword_row (w : World) (b i len cap : Nat) (l : List Int) (T : TypeId) (fr : Nat × Nat) (hb : w.heap[b]? = some (.cells (ints .u8 l) T fr)) (hl : i + 4 ≤ l.length) (hB : Bd 256 l) (h4 : 4 ≤ len) :
    Calls Tryd.prog 103 #[.slice (some ⟨b, i, none⟩) len cap] w fun e w' => e = .returned (.int .u64 (word64At l i)) ∧ Quiet w w' :=
  pword_cells w b i len cap l i (fun x hx => by rw [hb, cellOf_some, get_ints_lt _ _ _ (by omega)]) hB h4

/-- Five limbs of 26 bits. -/
def limbsS (b : List Int) : List Int :=
  [bits .and .u64 (word64At b 0) 67108863, bits .and .u64 (word64At b 3 / 4) 67108863, bits .and .u64 (word64At b 6 / 16) 67108863, bits .and .u64 (word64At b 9 / 64) 67108863,
    bits .or .u64 (word64At b 12 / 256) (IntKind.u64.wrap (IntKind.u64.wrap (nth b 16) * 16777216))]

set_option maxHeartbeats 2000000 in
theorem limbs_any (b : List Int) (hb : b.length = 17) (hB : Bd 256 b) (w : World) :
    Calls Tryd.prog 101 #[.agg (ints .u8 b)] w fun e w' => e = .returned (.agg (ints .u64 (limbsS b))) ∧ Below w.heap.size w w' := by
  have c16 := get_ints_lt .u8 b 16 (by omega)
  obtain ⟨v0, v1⟩ := hB 16
  go_enter Tryd.func101, Tryd.ntmps101
  go_wp2_with (refine al_row rfl (T := 141) rfl (cs := ints .u64 (zerosL 5)) (by kernel_rfl) ?_)
  have hb0 := blk2_0 w (.cells (ints .u8 b) 144) (.cells (ints .u64 (zerosL 5)) 141)
  have hb1 := blk2_1 w (.cells (ints .u8 b) 144) (.cells (ints .u64 (zerosL 5)) 141)
  have hBW : Below w.heap.size w ((w.alloc (.cells (ints .u8 b) 144)).alloc (.cells (ints .u64 (zerosL 5)) 141)) := ((Below.refl _ _).alloc (Nat.le_refl _) _).alloc (by simp) _
  generalize (w.alloc (.cells (ints .u8 b) 144)).alloc (.cells (ints .u64 (zerosL 5)) 141) = W at *
  refine wp_region_E [24] (S1 (fun _ => True) (fun w' => Quiet W w')) (by kernel_rfl) ?_
  have hq0 : Quiet W W.drew := ⟨1, rfl⟩
  have hS0 : S1 (fun _ => True) (fun w' => Quiet W w') [false] W.drew := ⟨trivial, fun _ => hq0⟩
  try simp only [Act.put, List.setIfInBounds_toArray, List.set_cons_zero, List.set_cons_succ]
  refine takeB (i := 0) (v := ?_) rfl (by kernel_rfl) (fun _ _ _ h => h) rfl (by kernel_rfl) (by exact hS0) (fun wx hx hb => ?_) ?_
  rotate_left
  · obtain ⟨nx, rfl⟩ := hb; go_simp; try with_reducible rfl
  try simp only [Act.put, List.setIfInBounds_toArray, List.set_cons_zero, List.set_cons_succ]
  refine takeB (i := 3) (v := ?_) rfl (by kernel_rfl) (fun _ _ _ h => h) rfl (by kernel_rfl) (by exact hS0) (fun wx hx hb => ?_) ?_
  rotate_left
  · obtain ⟨nx, rfl⟩ := hb; go_simp; try with_reducible rfl
  try simp only [Act.put, List.setIfInBounds_toArray, List.set_cons_zero, List.set_cons_succ]
  refine takeB (i := 7) (v := ?_) rfl (by kernel_rfl) (fun _ _ _ h => h) rfl (by kernel_rfl) (by exact hS0) (fun wx hx hb => ?_) ?_
  rotate_left
  · obtain ⟨nx, rfl⟩ := hb; go_simp; try with_reducible rfl
  try simp only [Act.put, List.setIfInBounds_toArray, List.set_cons_zero, List.set_cons_succ]
  refine takeB (i := 11) (v := ?_) rfl (by kernel_rfl) (fun _ _ _ h => h) rfl (by kernel_rfl) (by exact hS0) (fun wx hx hb => ?_) ?_
  rotate_left
  · obtain ⟨nx, rfl⟩ := hb; go_simp; try with_reducible rfl
  try simp only [Act.put, List.setIfInBounds_toArray, List.set_cons_zero, List.set_cons_succ]
  refine takeB (i := 15) (v := ?_) rfl (by kernel_rfl) (fun _ _ _ h => h) rfl (by kernel_rfl) (by exact hS0) (fun wx hx hb => ?_) ?_
  rotate_left
  · obtain ⟨nx, rfl⟩ := hb; go_simp; try with_reducible rfl
  try simp only [Act.put, List.setIfInBounds_toArray, List.set_cons_zero, List.set_cons_succ]
  refine takeB (i := 18) (v := ?_) rfl (by kernel_rfl) (fun _ _ _ h => h) rfl (by kernel_rfl) (by exact hS0) (fun wx hx hb => ?_) ?_
  rotate_left
  · obtain ⟨nx, rfl⟩ := hb; go_simp; try with_reducible rfl
  try simp only [Act.put, List.setIfInBounds_toArray, List.set_cons_zero, List.set_cons_succ]
  refine takeB (i := 19) (v := ?_) rfl (by kernel_rfl) (fun _ _ _ h => h) rfl (by kernel_rfl) (by exact hS0) (fun wx hx hb => ?_) ?_
  rotate_left
  · obtain ⟨nx, rfl⟩ := hb; go_simp; try with_reducible rfl
  try simp only [Act.put, List.setIfInBounds_toArray, List.set_cons_zero, List.set_cons_succ]
  refine takeB (i := 20) (v := ?_) rfl (by kernel_rfl) (fun _ _ _ h => h) rfl (by kernel_rfl) (by exact hS0) (fun wx hx hb => ?_) ?_
  rotate_left
  · obtain ⟨nx, rfl⟩ := hb; go_simp; try with_reducible rfl
  try simp only [Act.put, List.setIfInBounds_toArray, List.set_cons_zero, List.set_cons_succ]
  refine takeB (i := 21) (v := ?_) rfl (by kernel_rfl) (fun _ _ _ h => h) rfl (by kernel_rfl) (by exact hS0) (fun wx hx hb => ?_) ?_
  rotate_left
  · obtain ⟨nx, rfl⟩ := hb; go_simp; try with_reducible rfl
  try simp only [Act.put, List.setIfInBounds_toArray, List.set_cons_zero, List.set_cons_succ]
  refine runOne (i := 1) (by kernel_rfl) rfl rfl ?_
  go_simp
  refine (pword_row _ _ 0 _ _ b 144 (0,0) (by exact (congrArg (fun h : Array Obj => h[w.heap.size]?) hq0.heap).trans hb0) (by omega) hB (by omega)).mono ?_
  rintro e w1 ⟨rfl, hq⟩
  have hq1 := hq0.trans hq
  clear hq
  have hS1 : S1 (fun _ => True) (fun w' => Quiet W w') [false] w1 := ⟨trivial, fun _ => hq1⟩
  refine ⟨by exact hS1, ?_⟩
  try simp only [Act.put, List.setIfInBounds_toArray, List.set_cons_zero, List.set_cons_succ]
  refine takeB (i := 2) (v := ?_) rfl (by kernel_rfl) (fun _ _ _ h => h) rfl (by kernel_rfl) (by exact hS1) (fun wx hx hb => ?_) ?_
  rotate_left
  · obtain ⟨nx, rfl⟩ := hb; go_simp; try with_reducible rfl
  try simp only [Act.put, List.setIfInBounds_toArray, List.set_cons_zero, List.set_cons_succ]
  refine runOne (i := 4) (by kernel_rfl) rfl rfl ?_
  go_simp
  refine (pword_row _ _ 3 _ _ b 144 (0,0) (by exact (congrArg (fun h : Array Obj => h[w.heap.size]?) hq1.heap).trans hb0) (by omega) hB (by omega)).mono ?_
  rintro e w2 ⟨rfl, hq⟩
  have hq2 := hq1.trans hq
  clear hq
  have hS2 : S1 (fun _ => True) (fun w' => Quiet W w') [false] w2 := ⟨trivial, fun _ => hq2⟩
  refine ⟨by exact hS2, ?_⟩
  try simp only [Act.put, List.setIfInBounds_toArray, List.set_cons_zero, List.set_cons_succ]
  refine takeB (i := 5) (v := ?_) rfl (by kernel_rfl) (fun _ _ _ h => h) rfl (by kernel_rfl) (by exact hS2) (fun wx hx hb => ?_) ?_
  rotate_left
  · obtain ⟨nx, rfl⟩ := hb; go_simp; try with_reducible rfl
  try simp only [Act.put, List.setIfInBounds_toArray, List.set_cons_zero, List.set_cons_succ]
  refine takeB (i := 6) (v := ?_) rfl (by kernel_rfl) (fun _ _ _ h => h) rfl (by kernel_rfl) (by exact hS2) (fun wx hx hb => ?_) ?_
  rotate_left
  · obtain ⟨nx, rfl⟩ := hb; go_simp; try with_reducible rfl
  try simp only [Act.put, List.setIfInBounds_toArray, List.set_cons_zero, List.set_cons_succ]
  refine runOne (i := 8) (by kernel_rfl) rfl rfl ?_
  go_simp
  refine (pword_row _ _ 6 _ _ b 144 (0,0) (by exact (congrArg (fun h : Array Obj => h[w.heap.size]?) hq2.heap).trans hb0) (by omega) hB (by omega)).mono ?_
  rintro e w3 ⟨rfl, hq⟩
  have hq3 := hq2.trans hq
  clear hq
  have hS3 : S1 (fun _ => True) (fun w' => Quiet W w') [false] w3 := ⟨trivial, fun _ => hq3⟩
  refine ⟨by exact hS3, ?_⟩
  try simp only [Act.put, List.setIfInBounds_toArray, List.set_cons_zero, List.set_cons_succ]
  refine takeB (i := 9) (v := ?_) rfl (by kernel_rfl) (fun _ _ _ h => h) rfl (by kernel_rfl) (by exact hS3) (fun wx hx hb => ?_) ?_
  rotate_left
  · obtain ⟨nx, rfl⟩ := hb; go_simp; try with_reducible rfl
  try simp only [Act.put, List.setIfInBounds_toArray, List.set_cons_zero, List.set_cons_succ]
  refine takeB (i := 10) (v := ?_) rfl (by kernel_rfl) (fun _ _ _ h => h) rfl (by kernel_rfl) (by exact hS3) (fun wx hx hb => ?_) ?_
  rotate_left
  · obtain ⟨nx, rfl⟩ := hb; go_simp; try with_reducible rfl
  try simp only [Act.put, List.setIfInBounds_toArray, List.set_cons_zero, List.set_cons_succ]
  refine runOne (i := 12) (by kernel_rfl) rfl rfl ?_
  go_simp
  refine (pword_row _ _ 9 _ _ b 144 (0,0) (by exact (congrArg (fun h : Array Obj => h[w.heap.size]?) hq3.heap).trans hb0) (by omega) hB (by omega)).mono ?_
  rintro e w4 ⟨rfl, hq⟩
  have hq4 := hq3.trans hq
  clear hq
  have hS4 : S1 (fun _ => True) (fun w' => Quiet W w') [false] w4 := ⟨trivial, fun _ => hq4⟩
  refine ⟨by exact hS4, ?_⟩
  try simp only [Act.put, List.setIfInBounds_toArray, List.set_cons_zero, List.set_cons_succ]
  refine takeB (i := 13) (v := ?_) rfl (by kernel_rfl) (fun _ _ _ h => h) rfl (by kernel_rfl) (by exact hS4) (fun wx hx hb => ?_) ?_
  rotate_left
  · obtain ⟨nx, rfl⟩ := hb; go_simp; try with_reducible rfl
  try simp only [Act.put, List.setIfInBounds_toArray, List.set_cons_zero, List.set_cons_succ]
  refine takeB (i := 14) (v := ?_) rfl (by kernel_rfl) (fun _ _ _ h => h) rfl (by kernel_rfl) (by exact hS4) (fun wx hx hb => ?_) ?_
  rotate_left
  · obtain ⟨nx, rfl⟩ := hb; go_simp; try with_reducible rfl
  try simp only [Act.put, List.setIfInBounds_toArray, List.set_cons_zero, List.set_cons_succ]
  refine runOne (i := 16) (by kernel_rfl) rfl rfl ?_
  go_simp
  refine (pword_row _ _ 12 _ _ b 144 (0,0) (by exact (congrArg (fun h : Array Obj => h[w.heap.size]?) hq4.heap).trans hb0) (by omega) hB (by omega)).mono ?_
  rintro e w5 ⟨rfl, hq⟩
  have hq5 := hq4.trans hq
  clear hq
  have hS5 : S1 (fun _ => True) (fun w' => Quiet W w') [false] w5 := ⟨trivial, fun _ => hq5⟩
  refine ⟨by exact hS5, ?_⟩
  try simp only [Act.put, List.setIfInBounds_toArray, List.set_cons_zero, List.set_cons_succ]
  refine takeB (i := 17) (v := ?_) rfl (by kernel_rfl) (fun _ _ _ h => h) rfl (by kernel_rfl) (by exact hS5) (fun wx hx hb => ?_) ?_
  rotate_left
  · obtain ⟨nx, rfl⟩ := hb; go_simp; try with_reducible rfl
  try simp only [Act.put, List.setIfInBounds_toArray, List.set_cons_zero, List.set_cons_succ]
  refine takeB (i := 22) (v := ?_) rfl (by kernel_rfl) (fun _ _ _ h => h) rfl (by kernel_rfl) (by exact hS5) (fun wx hx hb => ?_) ?_
  rotate_left
  · obtain ⟨nx, rfl⟩ := hb; go_simp; try with_reducible rfl
  try simp only [Act.put, List.setIfInBounds_toArray, List.set_cons_zero, List.set_cons_succ]
  refine takeB (i := 23) (v := ?_) rfl (by kernel_rfl) (fun _ _ _ h => h) rfl (by kernel_rfl) (by exact hS5) (fun wx hx hb => ?_) ?_
  rotate_left
  · obtain ⟨nx, rfl⟩ := hb; go_simp; try with_reducible rfl
  try simp only [Act.put, List.setIfInBounds_toArray, List.set_cons_zero, List.set_cons_succ]
  refine runOne (i := 24) (by kernel_rfl) rfl rfl (wp_store_row 141 _ _ rfl _ (ints .u64 (limbsS b)) rfl rfl 141 (ints .u64 (zerosL 5)) (by exact (congrArg (fun h : Array Obj => h[w.heap.size + 1]?) hq5.heap).trans hb1) (by kernel_rfl) rfl (oneCell_ints _ _) ?_)
  refine ⟨⟨trivial, fun h => by cases h⟩, ?_⟩
  try simp only [Act.put, List.setIfInBounds_toArray, List.set_cons_zero, List.set_cons_succ]
  refine wpAnyE_done (by kernel_rfl) ?_ _
  go_wp2
  have hqB : Below w.heap.size w w5 := hBW.trans (hq5.below _)
  refine end_row (n := 5) rfl rfl (setRow_heap _ _ _ _ 141 (0,0) (by exact (congrArg (fun h : Array Obj => h[w.heap.size + 1]?) hq5.heap).trans hb1)) Tryd.underlying141 rfl (by kernel_rfl) rfl rfl ⟨rfl, belowRow hqB (by omega) _⟩
theorem limbsS_len (b : List Int) : (limbsS b).length = 5 := rfl
attribute [irreducible] limbsS

/-- poly.Equal: the bits in which they differ, so far. -/
def diffTo (a b : List Int) : Nat → Int
  | 0 => 0
  | k + 1 => bits .or .u8 (diffTo a b k) (bits .xor .u8 (nth a k) (nth b k))
def equalS (a b : List Int) : Bool := diffTo a b 16 == 0
set_option maxHeartbeats 2000000 in
theorem equal_any (a b : List Int) (ha : a.length = 16) (hb : b.length = 16) (w : World) :
    Calls Tryd.prog 47 #[.agg (ints .u8 a), .agg (ints .u8 b)] w fun e w' => e = .returned (.bool (equalS a b)) ∧ Below w.heap.size w w' := by
  go_enter Tryd.func47, Tryd.ntmps47
  go_wp2
  go_loopw [5, 6, 7] (fun x _ i wr => ∃ k : Nat, k ≤ 16 ∧ i = .int .i64 k ∧ x = .int .u8 (diffTo a b k) ∧ wr.heap[w.heap.size]? = some (.cells (ints .u8 a) 24 (0, 0)) ∧ wr.heap[w.heap.size + 1]? = some (.cells (ints .u8 b) 24 (0, 0)) ∧ Below w.heap.size w wr) (fun _ _ i _ => 16 - (intOf i).toNat)
  case atStart => exact ⟨0, by omega, rfl, rfl, by exact blk2_0 _ _ _, by exact blk2_1 _ _ _, ((Below.refl _ _).alloc (Nat.le_refl _) _).alloc (by simp) _⟩
  case round =>
    obtain ⟨k, hk, rfl, rfl, hA, hB, hBw⟩ := hrel
    by_cases hlt : k < 16
    · have k1 : (k : Int) < 16 := by omega
      go_wp2
      go_quiet (fail)
      go_wp2
      go_roundw
      case rel => exact ⟨k + 1, by omega, by go_num, rfl, hA, hB, below_drewN hBw _⟩
      case measure => simp [intOf]; omega
    · have hk' := Lib.hid (show k = 16 by omega)
      go_wp2
      go_ret
      refine ⟨?_, hBw⟩
      rw [hk'.out]; rfl
end Go.Proofs.YtjieiijbgbkikaaDoor
end
section
/- Package poly: Clamp; aead: Once, Extra. -/
namespace Go.Proofs.YtjieiijbgbkikaaDoor
open Go Go.RowKit
set_option maxRecDepth 100000
attribute [local go_sem] cell?_eq frozen?_eq heap_setCell_eq heap_setCell_ne

def clA : List Int := [3, 7, 11, 15]
def clB : List Int := [4, 8, 12]
theorem clA_bd : Bd 16 clA := .of_mem (by decide) (by decide)
theorem clB_bd : Bd 16 clB := .of_mem (by decide) (by decide)
def clampA (r : List Int) : Nat → List Int
  | 0 => r
  | k + 1 => (clampA r k).set (nth clA k).toNat (bits .and .u8 (nth (clampA r k) (nth clA k).toNat) 15)
def clampB (r : List Int) : Nat → List Int
  | 0 => r
  | k + 1 => (clampB r k).set (nth clB k).toNat (bits .and .u8 (nth (clampB r k) (nth clB k).toNat) 252)
theorem clampA_len (r : List Int) (k : Nat) : (clampA r k).length = r.length := by induction k <;> simp [clampA, *]
theorem clampB_len (r : List Int) (k : Nat) : (clampB r k).length = r.length := by induction k <;> simp [clampB, *]
def clampS (key : List Int) : List Int := clampB (clampA (key.take 16) 4) 3
theorem clampS_len (key : List Int) (h : key.length = 32) : (clampS key).length = 16 := by simp [clampS, clampB_len, clampA_len, h]
theorem clampA_zero (r : List Int) : clampA r 0 = r := rfl
theorem clampB_zero (r : List Int) : clampB r 0 = r := rfl
theorem clampA_succ (r : List Int) (k : Nat) : clampA r (k + 1) = (clampA r k).set (nth clA k).toNat (bits .and .u8 (nth (clampA r k) (nth clA k).toNat) 15) := rfl
theorem clampB_succ (r : List Int) (k : Nat) : clampB r (k + 1) = (clampB r k).set (nth clB k).toNat (bits .and .u8 (nth (clampB r k) (nth clB k).toNat) 252) := rfl
attribute [irreducible] clampA clampB

set_option maxHeartbeats 4000000 in
theorem clamp_any (key : List Int) (hk : key.length = 32) (w : World) :
    Calls Tryd.prog 100 #[.agg (ints .u8 key)] w fun e w' => e = .returned (.agg (ints .u8 (clampS key))) ∧ Below w.heap.size w w' := by
  go_enter Tryd.func100, Tryd.ntmps100
  go_wp2_with (refine al_row rfl (T := 24) rfl (cs := ints .u8 (zerosL 16)) (by kernel_rfl) ?_)
  go_still_tail 2, (by kernel_rfl)
  refine cp_seg rfl rfl Tryd.underlying25 (by kernel_rfl) (n := 16) (k := .u8) (src := key.take 16) (cs := ints .u8 (zerosL 16)) rfl rfl (by exact blk2_1 _ _ _) (by exact (SL.row (off := 0) (n := 16) (by exact blk2_0 _ _ _) (by omega))) (by simp [hk]) (by decide) (by rw [size_ints, zerosL_len]; omega) ?_
  intro w1 h1 ho1 hz1 hB1
  have hR : w1.heap[w.heap.size + 1]? = some (.cells (ints .u8 (clampA (key.take 16) 0)) 24 (0, 0)) := by
    rw [h1, overC_ints, overL_all (by simp [hk, zerosL_len]), List.take_of_length_le (by simp; omega), clampA_zero]
  have hBw : Below w.heap.size w w1 := hB1 _ _ (below_drewN (((Below.refl _ _).alloc (Nat.le_refl _) _).alloc (by simp) _) 1) (by omega)
  have hz : w.heap.size + 2 ≤ w1.heap.size := by rw [hz1]; simp
  clear h1 ho1 hz1 hB1
  go_wp2
  go_loopw [4, 11] (fun _ i wr => ∃ k : Nat, k ≤ 4 ∧ i = .int .i64 k ∧ wr.heap[w.heap.size + 1]? = some (.cells (ints .u8 (clampA (key.take 16) k)) 24 (0, 0)) ∧ Below w.heap.size w wr) (fun _ i _ => 4 - (intOf i).toNat)
  case atStart => exact ⟨0, by omega, rfl, hR, hBw⟩
  case round =>
    clear hR hBw hz
    obtain ⟨k, hk4, rfl, hR, hB⟩ := hrel
    have hl : (clampA (key.take 16) k).length = 16 := by rw [clampA_len]; simp [hk]
    by_cases hlt : k < 4
    · have hix : ∀ wx, (Instr.index 152 (.agg #[.int .i64 3, .int .i64 7, .int .i64 11, .int .i64 15]) (.int .i64 k)).run Tryd.prog wx = .ok (.int .i64 (nth clA k)) wx := fun wx => run_index_ints (P := Tryd.prog) (k := .i64) (T := 152) Tryd.underlying152 Tryd.underlying3 (by kernel_rfl) clA k hlt hlt wx
      obtain ⟨q0, q1⟩ := clA_bd k
      have q2 : (nth clA k).toNat < 16 := by omega
      go_wp2
      go_roundw
      case rel => exact ⟨k + 1, by omega, by go_num, by rw [clampA_succ]; exact (by simp (disch := (first | omega | (simp only [World.size_alloc, World.size_drew, size_setRow, World.heap_drewN]; omega) | simp only [World.size_alloc, World.size_drew, size_setRow, World.heap_drewN])) only [World.heap_drewN, heap_drew, heap_alloc_past, heap_alloc_at, heap_setRow_ne, heap_setCell_eq, heap_setCell_ne', putOf_some, set_ints, hR]), hB.setCell (by simp) _⟩
      case measure => simp [intOf]; omega
    · have hk' := Lib.hid (show k = 4 by omega)
      go_wp2
      go_loopw [6, 21] (fun _ i wx => ∃ j : Nat, j ≤ 3 ∧ i = .int .i64 j ∧ wx.heap[w.heap.size + 1]? = some (.cells (ints .u8 (clampB (clampA (key.take 16) k) j)) 24 (0, 0)) ∧ Below w.heap.size w wx) (fun _ i _ => 3 - (intOf i).toNat)
      case atStart => exact ⟨0, by omega, rfl, by rw [clampB_zero]; exact hR, hB⟩
      case round =>
        have hk'' := hk'
        clear hR hB hk'
        obtain ⟨j, hj3, rfl, hR, hB⟩ := hrel
        have hl2 : (clampB (clampA (key.take 16) k) j).length = 16 := by rw [clampB_len]; exact hl
        by_cases hlt3 : j < 3
        · have hix : ∀ wx, (Instr.index 156 (.agg #[.int .i64 4, .int .i64 8, .int .i64 12]) (.int .i64 j)).run Tryd.prog wx = .ok (.int .i64 (nth clB j)) wx := fun wx => run_index_ints (P := Tryd.prog) (k := .i64) (T := 156) Tryd.underlying156 Tryd.underlying3 (by kernel_rfl) clB j hlt3 hlt3 wx
          obtain ⟨q0, q1⟩ := clB_bd j
          have q2 : (nth clB j).toNat < 16 := by omega
          go_wp2
          go_roundw
          case rel => exact ⟨j + 1, by omega, by go_num, by rw [clampB_succ]; exact (by simp (disch := (first | omega | (simp only [World.size_alloc, World.size_drew, size_setRow, World.heap_drewN]; omega) | simp only [World.size_alloc, World.size_drew, size_setRow, World.heap_drewN])) only [World.heap_drewN, heap_drew, heap_alloc_past, heap_alloc_at, heap_setRow_ne, heap_setCell_eq, heap_setCell_ne', putOf_some, set_ints, hR]), hB.setCell (by simp) _⟩
          case measure => simp [intOf]; omega
        · have hj' := Lib.hid (show j = 3 by omega)
          go_wp2_with (first | (refine ld_ints rfl (ty := 24) rfl rfl (by exact hR) Tryd.underlying24 (by kernel_rfl) hl2 ?_) | (refine st_row (n := 16) rfl (ty := 24) rfl rfl rfl (by exact hR) (by kernel_rfl) (by rw [size_ints, hl2]) (by rw [size_ints, hl2]) (oneCell_ints _ _) ?_))
          refine end_row (n := 16) rfl rfl (setRow_heap _ _ _ _ 24 (0,0) (by exact hR)) Tryd.underlying24 rfl (by kernel_rfl) (by rw [size_ints, hl2]) rfl ⟨?_, belowRow hB (by omega) _⟩
          rw [hj'.out, hk''.out]; rfl
attribute [irreducible] clampS

/-- aead.Once: the first thirty-two bytes of block 0. -/
def onceS (key nonce : List Int) : List Int := (blockS key 0 nonce).take 32
theorem onceS_len (key nonce : List Int) : (onceS key nonce).length = 32 := by simp [onceS, blockS_len]
set_option maxHeartbeats 2000000 in
theorem once_any (key nonce : List Int) (hk : key.length = 32) (hn : nonce.length = 12) (hkB : Bd 256 key) (hnB : Bd 256 nonce) (w : World) (hC : Cols w) :
    Calls Tryd.prog 94 #[.agg (ints .u8 key), .agg (ints .u8 nonce)] w fun e w' => e = .returned (.agg (ints .u8 (onceS key nonce))) ∧ Below w.heap.size w w' := by
  have hw := hC.lt
  go_enter Tryd.func94, Tryd.ntmps94
  go_wp2_with (first | (refine al_row rfl (T := 31) rfl (cs := ints .u8 (zerosL 32)) (by kernel_rfl) ?_) | (refine ld_ints rfl (ty := 31) rfl rfl (by exact blk3_0 _ _ _ _) Tryd.underlying31 (by kernel_rfl) hk ?_) | (refine ld_ints rfl (ty := 62) rfl rfl (by exact blk3_1 _ _ _ _) Tryd.underlying62 (by kernel_rfl) hn ?_))
  refine (block_any key nonce hk hn hkB hnB 0 _ (hC.below ((((Below.refl _ _).alloc (Nat.le_refl _) _).alloc (by simp) _).alloc (by simp; omega) _) hw)).mono ?_
  rintro e w1 ⟨rfl, hB1⟩
  have hO1 := below_block hB1 (blk3_2 _ _ _ _) (by simp)
  have hB1w : Below w.heap.size w w1 := ((((Below.refl _ _).alloc (Nat.le_refl _) _).alloc (by simp) _).alloc (by simp; omega) _).trans (hB1.mono (by simp; omega))
  have hz1 : w.heap.size + 3 ≤ w1.heap.size := by have := hB1.size; simp at this; omega
  have hbl := blockS_len key 0 nonce
  clear hB1
  go_wp2_with (first | (refine al_row rfl (T := 129) rfl (cs := ints .u8 (zerosL 64)) (by kernel_rfl) ?_) | (refine st_row (n := 64) rfl (ty := 129) rfl rfl rfl (by exact heap_alloc_at _ _ _ rfl) (by kernel_rfl) (by rw [size_ints, zerosL_len]) (by rw [size_ints, hbl]) (oneCell_ints _ _) ?_; rw [setRow_alloc_at _ _ _ _ _ rfl]))
  go_still_tail 2, (by kernel_rfl)
  refine cp_seg rfl rfl Tryd.underlying25 (by kernel_rfl) (n := 32) (k := .u8) (src := blockS key 0 nonce) (cs := ints .u8 (zerosL 32)) rfl rfl (by exact (heap_alloc_past _ _ _ (by omega)).trans hO1) (by exact (SL.row_all (by exact heap_alloc_at _ _ _ rfl))) hbl.symm (by decide) (by rw [size_ints, zerosL_len]; omega) ?_
  intro w2 h2 ho2 hz2 hB2
  have hR : w2.heap[w.heap.size + 1 + 1]? = some (.cells (ints .u8 (onceS key nonce)) 31 (0, 0)) := by
    rw [h2, overC_ints, overL_all (by simp [hbl, zerosL_len])]; rfl
  have hBw : Below w.heap.size w w2 := hB2 _ _ (below_drewN (hB1w.alloc (by omega) _) 1) (by omega)
  have hol := onceS_len key nonce
  clear h2 ho2 hz2 hB2 hO1 hbl
  go_wp2_with (first | (refine ld_ints rfl (ty := 31) rfl rfl (by exact hR) Tryd.underlying31 (by kernel_rfl) hol ?_) | (refine st_row (n := 32) rfl (ty := 31) rfl rfl rfl (by exact hR) (by kernel_rfl) (by rw [size_ints, hol]) (by rw [size_ints, hol]) (oneCell_ints _ _) ?_))
  exact end_row (n := 32) rfl rfl (setRow_heap _ _ _ _ 31 (0,0) (by exact hR)) Tryd.underlying31 rfl (by kernel_rfl) (by rw [size_ints, hol]) rfl ⟨rfl, belowRow hBw (by omega) _⟩
attribute [irreducible] onceS

theorem extra_any (w : World) : Calls Tryd.prog 31 #[] w fun e w' => e = .returned (.int .i64 16) ∧ w = w' := by
  go_enter Tryd.func31, Tryd.ntmps31
  go_wp2
  go_ret
  exact ⟨rfl, rfl⟩
end Go.Proofs.YtjieiijbgbkikaaDoor
end
