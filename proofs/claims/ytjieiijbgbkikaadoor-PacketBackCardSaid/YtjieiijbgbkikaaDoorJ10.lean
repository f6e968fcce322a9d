/- Lemmas of a proof over the given program, joined by wip/join.py: KMacT. -/
import Derived.Test.YtjieiijbgbkikaaDoorJ09
set_option linter.unusedSimpArgs false
set_option linter.unusedVariables false
section
/- Package poly: Tag of a Mac. -/
namespace Go.Proofs.YtjieiijbgbkikaaDoor
open Go Go.RowKit
set_option maxRecDepth 100000
attribute [local go_sem] cell?_eq frozen?_eq heap_setCell_eq heap_setCell_ne

/-- One round of carries; so many. -/
def rndT (d : List Int) : List Int := (carTo d 5).1.set 0 (u64w (nth (carTo d 5).1 0 + u64w (5 * (carTo d 5).2)))
def rndsT (d : List Int) : Nat → List Int
  | 0 => d
  | k + 1 => rndT (rndsT d k)
theorem rndT_len (d : List Int) : (rndT d).length = d.length := by simp [rndT, carTo_len]
theorem rndsT_len (d : List Int) (k : Nat) : (rndsT d k).length = d.length := by induction k <;> simp [rndsT, rndT_len, *]
theorem rndsT_zero (d : List Int) : rndsT d 0 = d := rfl
theorem rndsT_succ (d : List Int) (k : Nat) : rndsT d (k + 1) = (carTo (rndsT d k) 5).1.set 0 (u64w (nth (carTo (rndsT d k) 5).1 0 + u64w (5 * (carTo (rndsT d k) 5).2))) := rfl
attribute [irreducible] rndsT rndT
def redT (d : List Int) : List Int := (d.set 0 (bits .and .u64 (nth d 0) 67108863)).set 1 (u64w (nth d 1 + nth d 0 / 67108864))
theorem redT_len (d : List Int) : (redT d).length = d.length := by simp [redT]
/-- Less the modulus: the limbs, the carry. -/
def subTo (h : List Int) : Nat → List Int × Int
  | 0 => (zerosL 5, 5)
  | k + 1 => ((subTo h k).1.set k (bits .and .u64 (u64w (nth h k + (subTo h k).2)) 67108863), u64w (nth h k + (subTo h k).2) / 67108864)
theorem subTo_len (h : List Int) (k : Nat) : (subTo h k).1.length = 5 := by induction k <;> simp [subTo, zerosL_len, *]
theorem subTo_zero (h : List Int) : subTo h 0 = (zerosL 5, 5) := rfl
theorem subTo_succ1 (h : List Int) (k : Nat) : (subTo h (k + 1)).1 = (subTo h k).1.set k (bits .and .u64 (u64w (nth h k + (subTo h k).2)) 67108863) := rfl
theorem subTo_succ2 (h : List Int) (k : Nat) : (subTo h (k + 1)).2 = u64w (nth h k + (subTo h k).2) / 67108864 := rfl
attribute [irreducible] subTo redT
def takeT (c : Int) : Int := u64w (-(bits .and .u64 c 1))
def selTo (h g : List Int) (t : Int) : Nat → List Int
  | 0 => h
  | k + 1 => (selTo h g t k).set k (bits .or .u64 (bits .andNot .u64 (nth (selTo h g t k) k) t) (bits .and .u64 (nth g k) t))
theorem selTo_len (h g : List Int) (t : Int) (k : Nat) : (selTo h g t k).length = h.length := by induction k <;> simp [selTo, *]
theorem selTo_zero (h g : List Int) (t : Int) : selTo h g t 0 = h := rfl
theorem selTo_succ (h g : List Int) (t : Int) (k : Nat) : selTo h g t (k + 1) = (selTo h g t k).set k (bits .or .u64 (bits .andNot .u64 (nth (selTo h g t k) k) t) (bits .and .u64 (nth g k) t)) := rfl
attribute [irreducible] selTo takeT

/-- What is left is taken up. -/
def lastT (r h l : List Int) : List Int := if 0 < l.length then pblockS h r l else h
theorem lastT_len (r : List Int) {h : List Int} (hh : h.length = 5) (l : List Int) : (lastT r h l).length = 5 := by unfold lastT; split <;> simp [pblockS_len, hh]
def lowT (e : List Int) : Int := bits .or .u64 (bits .or .u64 (nth e 0) (IntKind.u64.wrap (nth e 1 * 67108864))) (IntKind.u64.wrap (nth e 2 * 4503599627370496))
def highT (e : List Int) : Int := bits .or .u64 (bits .or .u64 (nth e 2 / 4096) (IntKind.u64.wrap (nth e 3 * 16384))) (IntKind.u64.wrap (nth e 4 * 1099511627776))
def sT (s : List Int) (i j : Nat) : Int := bits .or .u64 (word64At s i) (IntKind.u64.wrap (word64At s j * 4294967296))
def outT (x y : Int) : Nat → List Int
  | 0 => zerosL 16
  | k + 1 => ((outT x y k).set k (x / 2 ^ (8 * k) % 256)).set (8 + k) (y / 2 ^ (8 * k) % 256)
theorem outT_len (x y : Int) (k : Nat) : (outT x y k).length = 16 := by induction k <;> simp [outT, zerosL_len, *]
theorem outT_zero (x y : Int) : outT x y 0 = zerosL 16 := rfl
theorem outT_succ (x y : Int) (k : Nat) : outT x y (k + 1) = ((outT x y k).set k (x / 2 ^ (8 * k) % 256)).set (8 + k) (y / 2 ^ (8 * k) % 256) := rfl
attribute [irreducible] outT
def overT (x y : Int) : Int := if u64w (x + y) < x then 1 else 0
def endT (r h l : List Int) : List Int :=
  selTo (redT (rndsT (lastT r h l) 2)) (subTo (redT (rndsT (lastT r h l) 2)) 5).1 (takeT (subTo (redT (rndsT (lastT r h l) 2)) 5).2) 5
def tagS (r h s l : List Int) : List Int :=
  outT (u64w (lowT (endT r h l) + sT s 0 4)) (u64w (highT (endT r h l) + u64w (sT s 8 12 + overT (lowT (endT r h l)) (sT s 0 4)))) 8
theorem tagS_len (r h s l : List Int) : (tagS r h s l).length = 16 := outT_len ..
set_option maxHeartbeats 8000000 in
theorem mtag_any (r h s l : List Int) (hr : r.length = 5) (hh : h.length = 5) (hs : s.length = 16) (hsB : Bd 256 s) (hlB : Bd 256 l) (hl16 : l.length < 16) (B M : Nat) (v : Value) (n : Int) (w : World)
    (hM : w.heap[M]? = some (.cells (macC r h s v n) 143 (0, 0))) (hO : Own B w 5 .u8 v l) :
    Calls Tryd.prog 96 #[.pointer (some ⟨M, 0, none⟩)] w fun e w' => e = .returned (.agg (ints .u8 (tagS r h s l))) ∧ Below w.heap.size w w' := by
  have hMa := fun o => (heap_alloc_past w o M (Array.getElem?_eq_some_iff.1 hM).1).trans hM
  have hMb := fun o o' => (heap_alloc_past (w.alloc o) o' M (by have := (Array.getElem?_eq_some_iff.1 hM).1; simp; omega)).trans (hMa o)
  have hMlt := Lib.hid (Array.getElem?_eq_some_iff.1 hM).1
  have hsl := hO.cases
  go_enter Tryd.func96, Tryd.ntmps96
  obtain ⟨vp, vc, rfl, hSl, hvc, hvp⟩ : ∃ vp vc, v = .slice vp l.length vc ∧ SL .u8 w vp l ∧ l.length ≤ vc ∧ (vp = none ∨ ∃ g, vp = some ⟨g, 0, none⟩) := by
    rcases hsl with ⟨e, e0⟩ | ⟨g, c, e, h1, h2, _⟩
    · exact ⟨none, 0, by rw [e, e0]; rfl, by rw [e0]; exact SL.nil .., by rw [e0]; exact Nat.le_refl _, .inl rfl⟩
    · exact ⟨_, c, e, h1, h2, .inr ⟨g, rfl⟩⟩
  clear hsl
  have hHl := lastT_len r hh l
  by_cases hl0 : 0 < l.length
  rotate_left
  have hH : lastT r h l = h := by rw [lastT, if_neg hl0]
  go_wp2_with (first | (refine al_row rfl (T := 24) rfl (cs := ints .u8 (zerosL 16)) (by kernel_rfl) ?_) | (refine al_row rfl (T := 141) rfl (cs := ints .u64 (zerosL 5)) (by kernel_rfl) ?_) | (refine ld_seg rfl (ty := 141) (off := 5) (g := M) rfl rfl (by exact hMa _) Tryd.underlying141 (sz := 5) (by kernel_rfl) (by rw [macC_size]; decide) ?_; rw [macC_ext_h _ _ _ _ _ hh]) | (refine st_row (n := 5) rfl (ty := 141) rfl rfl rfl (by exact heap_alloc_at _ _ _ rfl) (by kernel_rfl) (by rw [size_ints, zerosL_len]) (by rw [size_ints, hh]) (oneCell_ints _ _) ?_; rw [setRow_alloc_at _ _ _ _ _ rfl]))
  have hD : ((w.alloc (.cells (ints .u8 (zerosL 16)) 24)).alloc (.cells (ints .u64 h) 141)).heap[w.heap.size + 1]? = some (.cells (ints .u64 (lastT r h l)) 141 (0, 0)) := by rw [hH]; exact blk2_1 _ _ _
  have hR := blk2_0 w (.cells (ints .u8 (zerosL 16)) 24) (.cells (ints .u64 h) 141)
  have hBW : Below w.heap.size w ((w.alloc (.cells (ints .u8 (zerosL 16)) 24)).alloc (.cells (ints .u64 h) 141)) := ((Below.refl _ _).alloc (Nat.le_refl _) _).alloc (by simp) _
  generalize (w.alloc (.cells (ints .u8 (zerosL 16)) 24)).alloc (.cells (ints .u64 h) 141) = W at *
  clear hMa hMb hH
  rotate_left
  have hH : lastT r h l = pblockS h r l := by rw [lastT, if_pos hl0]
  rcases hvp with e | ⟨g, rfl⟩
  · exfalso
    obtain ⟨b, o, e', _⟩ := hSl.open hl0
    rw [e] at e'; cases e'
  go_wp2_with (first | (refine al_row rfl (T := 24) rfl (cs := ints .u8 (zerosL 16)) (by kernel_rfl) ?_) | (refine al_row rfl (T := 141) rfl (cs := ints .u64 (zerosL 5)) (by kernel_rfl) ?_) | (refine ld_seg rfl (ty := 141) (off := 5) (g := M) rfl rfl (by exact hMa _) Tryd.underlying141 (sz := 5) (by kernel_rfl) (by rw [macC_size]; decide) ?_; rw [macC_ext_h _ _ _ _ _ hh]) | (refine st_row (n := 5) rfl (ty := 141) rfl rfl rfl (by exact heap_alloc_at _ _ _ rfl) (by kernel_rfl) (by rw [size_ints, zerosL_len]) (by rw [size_ints, hh]) (oneCell_ints _ _) ?_; rw [setRow_alloc_at _ _ _ _ _ rfl]))
  have hD0 := blk2_1 w (.cells (ints .u8 (zerosL 16)) 24) (.cells (ints .u64 h) 141)
  have hR0 := blk2_0 w (.cells (ints .u8 (zerosL 16)) 24) (.cells (ints .u64 h) 141)
  have hMm := hMb (.cells (ints .u8 (zerosL 16)) 24) (.cells (ints .u64 h) 141)
  have hS0l := (hSl.alloc (.cells (ints .u8 (zerosL 16)) 24)).alloc (.cells (ints .u64 h) 141)
  have hBW0 : Below w.heap.size w ((w.alloc (.cells (ints .u8 (zerosL 16)) 24)).alloc (.cells (ints .u64 h) 141)) := ((Below.refl _ _).alloc (Nat.le_refl _) _).alloc (by simp) _
  have hz0 : w.heap.size + 2 ≤ ((w.alloc (.cells (ints .u8 (zerosL 16)) 24)).alloc (.cells (ints .u64 h) 141)).heap.size := by simp
  generalize (w.alloc (.cells (ints .u8 (zerosL 16)) 24)).alloc (.cells (ints .u64 h) 141) = W0 at *
  clear hMa hMb
  refine wp_region_E [9] (S1 (fun _ => True) (fun w' => Quiet W0 w')) (by kernel_rfl) ?_
  have hq0 : Quiet W0 W0.drew := ⟨1, rfl⟩
  have hS0 : S1 (fun _ => True) (fun w' => Quiet W0 w') [false] W0.drew := ⟨trivial, fun _ => hq0⟩
  try simp only [Act.put, List.setIfInBounds_toArray, List.set_cons_zero, List.set_cons_succ]
  refine takeB (i := 0) (v := ?_) rfl (by kernel_rfl) (fun _ _ _ h => h) rfl (by kernel_rfl) (by exact hS0) (fun wx hx hb => ?_) ?_
  rotate_left
  · obtain ⟨nx, rfl⟩ := hb; go_simp; try with_reducible rfl
  try simp only [Act.put, List.setIfInBounds_toArray, List.set_cons_zero, List.set_cons_succ]
  refine takeB (i := 1) (v := ?_) rfl (by kernel_rfl) (fun _ _ _ h => h) rfl (by kernel_rfl) (by exact hS0) (fun wx hx hb => ?_) ?_
  rotate_left
  · obtain ⟨nx, rfl⟩ := hb; go_simp; try with_reducible rfl
  try simp only [Act.put, List.setIfInBounds_toArray, List.set_cons_zero, List.set_cons_succ]
  refine takeB (i := 2) (v := ?_) rfl (by kernel_rfl) (fun _ _ _ h => h) rfl (by kernel_rfl) (by exact hS0) (fun wx hx hb => ?_) ?_
  rotate_left
  · obtain ⟨nx, rfl⟩ := hb; go_simp; try with_reducible rfl
  try simp only [Act.put, List.setIfInBounds_toArray, List.set_cons_zero, List.set_cons_succ]
  refine takeB (i := 3) (v := ?_) rfl (by kernel_rfl) (fun _ _ _ h => h) rfl (by kernel_rfl) (by exact hS0) (fun wx hx hb => ?_) ?_
  rotate_left
  · obtain ⟨nx, rfl⟩ := hb; go_simp; try with_reducible rfl
  try simp only [Act.put, List.setIfInBounds_toArray, List.set_cons_zero, List.set_cons_succ]
  refine takeB (i := 4) (v := ?_) rfl (by kernel_rfl) (fun _ _ _ h => h) rfl (by kernel_rfl) (by exact hS0) (fun wx hx hb => ?_) ?_
  rotate_left
  · obtain ⟨nx, rfl⟩ := hb; go_simp; try with_reducible rfl
  try simp only [Act.put, List.setIfInBounds_toArray, List.set_cons_zero, List.set_cons_succ]
  refine takeB (i := 5) (v := ?_) rfl (by kernel_rfl) (fun _ _ _ h => h) rfl (by kernel_rfl) (by exact hS0) (fun wx hx hb => ?_) ?_
  rotate_left
  · obtain ⟨nx, rfl⟩ := hb; go_simp; try with_reducible rfl
  try simp only [Act.put, List.setIfInBounds_toArray, List.set_cons_zero, List.set_cons_succ]
  refine takeB (i := 6) (v := ?_) rfl (by kernel_rfl) (fun _ _ _ h => h) rfl (by kernel_rfl) (by exact hS0) (fun wx hx hb => ?_) ?_
  rotate_left
  · obtain ⟨nx, rfl⟩ := hb; go_simp; try with_reducible rfl
  try simp only [Act.put, List.setIfInBounds_toArray, List.set_cons_zero, List.set_cons_succ]
  refine takeB (i := 7) (v := ?_) rfl (by kernel_rfl) (fun _ _ _ h => h) rfl (by kernel_rfl) (by exact hS0) (fun wx hx hb => ?_) ?_
  rotate_left
  · obtain ⟨nx, rfl⟩ := hb; go_simp; try with_reducible rfl
  try simp only [Act.put, List.setIfInBounds_toArray, List.set_cons_zero, List.set_cons_succ]
  refine takeB (i := 8) (v := ?_) rfl (by kernel_rfl) (fun _ _ _ h => h) rfl (by kernel_rfl) (by exact hS0) (fun wx hx hb => ?_) ?_
  rotate_left
  · obtain ⟨nx, rfl⟩ := hb; go_simp; try with_reducible rfl
  try simp only [Act.put, List.setIfInBounds_toArray, List.set_cons_zero, List.set_cons_succ]
  refine runOne (i := 9) (by kernel_rfl) rfl rfl ?_
  go_simp
  rw [macC_row_r _ _ _ _ _ hr, five_ints h hh]
  refine (pblock_any h r l hh hr (by omega) hlB (some ⟨g, 0, none⟩) vc _ (hS0l.quiet hq0)).mono ?_
  rintro e w3 ⟨rfl, hB3⟩
  have hD3 := below_block hB3 (show W0.drew.heap[w.heap.size + 1]? = _ from hD0) (by show _ < W0.heap.size; omega)
  have hR3 := below_block hB3 (show W0.drew.heap[w.heap.size]? = _ from hR0) (by show _ < W0.heap.size; omega)
  have hB3w : Below w.heap.size w w3 := (hBW0.trans (hq0.below _)).trans (hB3.mono (by show _ ≤ W0.heap.size; omega))
  have hS1 : S1 (fun _ => True) (fun w' => Quiet W0 w') [true] w3 := ⟨trivial, fun h => by cases h⟩
  refine ⟨by exact hS1, ?_⟩
  try simp only [Act.put, List.setIfInBounds_toArray, List.set_cons_zero, List.set_cons_succ]
  refine runOne (i := 10) (by kernel_rfl) rfl rfl (wp_store_row 141 _ _ rfl _ (ints .u64 (pblockS h r l)) rfl rfl 141 (ints .u64 h) (by exact hD3) (by rw [size_ints, ← hH, hHl]; kernel_rfl) (by rw [size_ints, size_ints, ← hH, hHl, hh]) (oneCell_ints _ _) ?_)
  refine ⟨⟨trivial, fun h => by cases h⟩, ?_⟩
  try simp only [Act.put, List.setIfInBounds_toArray, List.set_cons_zero, List.set_cons_succ]
  refine wpAnyE_done (by kernel_rfl) ?_ _
  have hD := setRow_heap w3 (w.heap.size + 1) _ (ints .u64 (pblockS h r l)) _ _ hD3
  have hR := (setRow_other w3 (w.heap.size + 1) w.heap.size (ints .u64 (pblockS h r l)) (by omega)).trans hR3
  have hBW := belowRow hB3w (show w.heap.size ≤ w.heap.size + 1 by omega) (ints .u64 (pblockS h r l))
  generalize w3.setRow (w.heap.size + 1) (ints .u64 (pblockS h r l)) = W at *
  rw [← hH] at hD
  clear hD0 hR0 hMm hS0l hBW0 hz0 hq0 hS0 hD3 hR3 hB3w hB3 hH hS1
  go_wp2
  all_goals
    have hMlt' := hMlt.out
    have HM := Lib.hid hM
    clear hMlt' hM hSl hvc hl0 hlB hl16
    obtain ⟨H, hHd⟩ : ∃ H, H = lastT r h l := ⟨_, rfl⟩
    rw [← hHd] at hD hHl
    have HH := Lib.hid hHd
    clear hHd
    go_loopw [4, 5, 49, 51] (fun _ _ i _ wr => ∃ k : Nat, k ≤ 2 ∧ i = .int .i64 k ∧ wr.heap[w.heap.size]? = some (.cells (ints .u8 (zerosL 16)) 24 (0, 0)) ∧ wr.heap[w.heap.size + 1]? = some (.cells (ints .u64 (rndsT H k)) 141 (0, 0)) ∧ Below w.heap.size w wr) (fun _ _ i _ _ => 2 - (intOf i).toNat)
    case atStart => exact ⟨0, by omega, rfl, hR, by rw [rndsT_zero]; exact hD, hBW⟩
    case round =>
      clear hD hR hBW
      obtain ⟨k, hk2, rfl, hR, hD, hB⟩ := hrel
      have hdl : (rndsT H k).length = 5 := by rw [rndsT_len, hHl]
      by_cases hlt : k < 2
      · have k1 : (k : Int) < 2 := by omega
        go_wp2
        obtain ⟨M1, hM1⟩ : ∃ M1, M1 = rndsT H k := ⟨_, rfl⟩
        rw [← hM1] at hD hdl
        have HM1 := Lib.hid hM1; clear hM1
        go_loopw [4, 5, 51] (fun c _ i wr => ∃ q : Nat, q ≤ 5 ∧ i = .int .i64 q ∧ c = .int .u64 (carTo M1 q).2 ∧ wr.heap[w.heap.size]? = some (.cells (ints .u8 (zerosL 16)) 24 (0, 0)) ∧ wr.heap[w.heap.size + 1]? = some (.cells (ints .u64 (carTo M1 q).1) 141 (0, 0)) ∧ Below w.heap.size w wr) (fun _ _ i _ => 5 - (intOf i).toNat)
        case atStart => exact ⟨0, by omega, rfl, by rw [carTo_zero], hR, by rw [carTo_zero]; exact hD, hB⟩
        case round =>
          clear hR hD hB
          obtain ⟨q, hq5, rfl, rfl, hR, hD, hB⟩ := hrel
          have hcl : (carTo M1 q).1.length = 5 := by rw [carTo_len, hdl]
          by_cases hltq : q < 5
          · have c1 : (q : Int) < 5 := by omega
            go_wp2
            go_roundw
            case rel => exact ⟨q + 1, by omega, by go_num, by rw [carTo_succ2, u64w]; simp only [Value.int.injEq, true_and]; rw [nth_set_eq _ (show q < (carTo M1 q).1.length by omega)], (by simp (disch := (first | omega | (simp only [World.size_alloc, World.size_drew, size_setRow, World.heap_drewN]; omega) | simp only [World.size_alloc, World.size_drew, size_setRow, World.heap_drewN])) only [World.heap_drewN, heap_drew, heap_alloc_past, heap_alloc_at, heap_setRow_ne, heap_setCell_eq, heap_setCell_ne', putOf_some, set_ints, hR]), by rw [carTo_succ1, u64w]; have hns := nth_set_eq (IntKind.u64.wrap (nth (carTo M1 q).1 q + (carTo M1 q).2)) (show q < (carTo M1 q).1.length by omega); exact (by simp (disch := (first | omega | (simp only [World.size_alloc, World.size_drew, size_setRow, World.heap_drewN]; omega) | simp only [World.size_alloc, World.size_drew, size_setRow, World.heap_drewN])) only [World.heap_drewN, heap_drew, heap_alloc_past, heap_alloc_at, heap_setRow_ne, heap_setCell_eq, heap_setCell_ne', putOf_some, set_ints, hD, hns, List.set_set]), (hB.setCell (by simp) _).setCell (by simp) _⟩
            case measure => simp [intOf]; omega
          · have hq' := Lib.hid (show q = 5 by omega)
            go_wp2
            go_roundw
            case rel => exact ⟨k + 1, by omega, by go_num, (by simp (disch := (first | omega | (simp only [World.size_alloc, World.size_drew, size_setRow, World.heap_drewN]; omega) | simp only [World.size_alloc, World.size_drew, size_setRow, World.heap_drewN])) only [World.heap_drewN, heap_drew, heap_alloc_past, heap_alloc_at, heap_setRow_ne, heap_setCell_eq, heap_setCell_ne', putOf_some, set_ints, hR]), by rw [rndsT_succ, ← HM1.out, ← hq'.out]; exact (by simp (disch := (first | omega | (simp only [World.size_alloc, World.size_drew, size_setRow, World.heap_drewN]; omega) | simp only [World.size_alloc, World.size_drew, size_setRow, World.heap_drewN])) only [World.heap_drewN, heap_drew, heap_alloc_past, heap_alloc_at, heap_setRow_ne, heap_setCell_eq, heap_setCell_ne', putOf_some, set_ints, hD, u64w]), hB.setCell (by simp) _⟩
            case measure => simp [intOf]; omega
      · have hk' := Lib.hid (show k = 2 by omega)
        go_wp2_with (refine al_row rfl (T := 141) rfl (cs := ints .u64 (zerosL 5)) (by kernel_rfl) ?_)
        obtain ⟨R0, hR0d⟩ : ∃ R0, R0 = rndsT H k := ⟨_, rfl⟩
        rw [← hR0d] at hD hdl ⊢
        have HR0 := Lib.hid hR0d; clear hR0d
        obtain ⟨x0, hx0⟩ : ∃ x, x = bits .and .u64 (nth R0 0) 67108863 := ⟨_, rfl⟩
        obtain ⟨x1, hx1⟩ : ∃ x, x = IntKind.u64.wrap (nth (R0.set 0 (bits .and .u64 (nth R0 0) 67108863)) 1 + nth R0 0 / 67108864) := ⟨_, rfl⟩
        rw [← hx1, ← hx0]
        have hred : (R0.set 0 x0).set 1 x1 = redT R0 := by
          unfold redT
          rw [hx1, hx0, nth_set_ne _ (by decide)]; rfl
        have hrl : (redT R0).length = 5 := by rw [redT_len, hdl]
        have hzr := hB.size
        obtain ⟨G, hG⟩ : ∃ G, G = wr.heap.size := ⟨_, rfl⟩
        have hGlt : w.heap.size + 2 ≤ G := by
          have := (Array.getElem?_eq_some_iff.1 hD).1
          omega
        have hDa : ((((wr.setCell ⟨w.heap.size + 1, 0, none⟩ (.int .u64 x0)).setCell ⟨w.heap.size + 1, 1, none⟩ (.int .u64 x1)).alloc (.cells (ints .u64 (zerosL 5)) 141))).heap[w.heap.size + 1]? = some (.cells (ints .u64 (redT R0)) 141 (0, 0)) := by
          rw [← hred, heap_alloc_past _ _ _ (by simp; omega)]; exact (by simp (disch := (first | omega | (simp only [World.size_alloc, World.size_drew, size_setRow, World.heap_drewN]; omega) | simp only [World.size_alloc, World.size_drew, size_setRow, World.heap_drewN])) only [World.heap_drewN, heap_drew, heap_alloc_past, heap_alloc_at, heap_setRow_ne, heap_setCell_eq, heap_setCell_ne', putOf_some, set_ints, hD])
        have hRa : ((((wr.setCell ⟨w.heap.size + 1, 0, none⟩ (.int .u64 x0)).setCell ⟨w.heap.size + 1, 1, none⟩ (.int .u64 x1)).alloc (.cells (ints .u64 (zerosL 5)) 141))).heap[w.heap.size]? = some (.cells (ints .u8 (zerosL 16)) 24 (0, 0)) := by
          rw [heap_alloc_past _ _ _ (by simp; omega)]; exact (by simp (disch := (first | omega | (simp only [World.size_alloc, World.size_drew, size_setRow, World.heap_drewN]; omega) | simp only [World.size_alloc, World.size_drew, size_setRow, World.heap_drewN])) only [World.heap_drewN, heap_drew, heap_alloc_past, heap_alloc_at, heap_setRow_ne, heap_setCell_eq, heap_setCell_ne', putOf_some, set_ints, hR])
        have hGa : ((((wr.setCell ⟨w.heap.size + 1, 0, none⟩ (.int .u64 x0)).setCell ⟨w.heap.size + 1, 1, none⟩ (.int .u64 x1)).alloc (.cells (ints .u64 (zerosL 5)) 141))).heap[G]? = some (.cells (ints .u64 ((subTo (redT R0) 0).1)) 141 (0, 0)) := by
          rw [subTo_zero]; exact heap_alloc_at _ _ _ (by simp; omega)
        have hBa : Below w.heap.size w (((wr.setCell ⟨w.heap.size + 1, 0, none⟩ (.int .u64 x0)).setCell ⟨w.heap.size + 1, 1, none⟩ (.int .u64 x1)).alloc (.cells (ints .u64 (zerosL 5)) 141)) := ((hB.setCell (by simp) _).setCell (by simp) _).alloc (by simp; omega) _
        rw [← hG]
        have HG := Lib.hid hG
        clear hG hR hD hB hred hx0 hx1 hzr
        generalize ((wr.setCell ⟨w.heap.size + 1, 0, none⟩ (.int .u64 x0)).setCell ⟨w.heap.size + 1, 1, none⟩ (.int .u64 x1)).alloc (.cells (ints .u64 (zerosL 5)) 141) = Wa at *
        obtain ⟨R1, hR1d⟩ : ∃ R1, R1 = redT R0 := ⟨_, rfl⟩
        rw [← hR1d] at hDa hrl hGa
        have HR1 := Lib.hid hR1d; clear hR1d
        go_loopw [8, 9, 89] (fun c _ i wr => ∃ q : Nat, q ≤ 5 ∧ i = .int .i64 q ∧ c = .int .u64 (subTo R1 q).2 ∧ wr.heap[w.heap.size]? = some (.cells (ints .u8 (zerosL 16)) 24 (0, 0)) ∧ wr.heap[w.heap.size + 1]? = some (.cells (ints .u64 (R1)) 141 (0, 0)) ∧ wr.heap[G]? = some (.cells (ints .u64 ((subTo R1 q).1)) 141 (0, 0)) ∧ Below w.heap.size w wr) (fun _ _ i _ => 5 - (intOf i).toNat)
        case atStart => exact ⟨0, by omega, rfl, by rw [subTo_zero], hRa, hDa, hGa, hBa⟩
        case round =>
          clear hRa hDa hGa hBa
          obtain ⟨q, hq5, rfl, rfl, hR, hD, hGG, hB⟩ := hrel
          have hsl := subTo_len R1 q
          by_cases hltq : q < 5
          · have c1 : (q : Int) < 5 := by omega
            go_wp2
            go_roundw
            case rel => exact ⟨q + 1, by omega, by go_num, by rw [subTo_succ2, u64w]; simp only [Value.int.injEq, true_and]; rw [nth_set_eq _ (show q < (subTo R1 q).1.length by omega)], (by simp (disch := (first | omega | (simp only [World.size_alloc, World.size_drew, size_setRow, World.heap_drewN]; omega) | simp only [World.size_alloc, World.size_drew, size_setRow, World.heap_drewN])) only [World.heap_drewN, heap_drew, heap_alloc_past, heap_alloc_at, heap_setRow_ne, heap_setCell_eq, heap_setCell_ne', putOf_some, set_ints, hR]), (by simp (disch := (first | omega | (simp only [World.size_alloc, World.size_drew, size_setRow, World.heap_drewN]; omega) | simp only [World.size_alloc, World.size_drew, size_setRow, World.heap_drewN])) only [World.heap_drewN, heap_drew, heap_alloc_past, heap_alloc_at, heap_setRow_ne, heap_setCell_eq, heap_setCell_ne', putOf_some, set_ints, hD]), by rw [subTo_succ1, u64w]; have hns := nth_set_eq (IntKind.u64.wrap (nth R1 q + (subTo R1 q).2)) (show q < (subTo R1 q).1.length by omega); exact (by simp (disch := (first | omega | (simp only [World.size_alloc, World.size_drew, size_setRow, World.heap_drewN]; omega) | simp only [World.size_alloc, World.size_drew, size_setRow, World.heap_drewN])) only [World.heap_drewN, heap_drew, heap_alloc_past, heap_alloc_at, heap_setRow_ne, heap_setCell_eq, heap_setCell_ne', putOf_some, set_ints, hGG, hns, List.set_set]), (hB.setCell (by simp; omega) _).setCell (by simp; omega) _⟩
            case measure => simp [intOf]; omega
          · have hq' := Lib.hid (show q = 5 by omega)
            go_wp2
            obtain ⟨t0, ht0⟩ : ∃ t0, t0 = IntKind.u64.wrap (-bits .and .u64 (subTo R1 q).2 1) := ⟨_, rfl⟩
            rw [← ht0]
            have HT := Lib.hid ht0; clear ht0
            obtain ⟨G1, hG1⟩ : ∃ G1, G1 = (subTo R1 q).1 := ⟨_, rfl⟩
            rw [← hG1] at hGG hsl
            have HG1 := Lib.hid hG1; clear hG1
            go_loopw [11, 112] (fun _ i wr => ∃ m : Nat, m ≤ 5 ∧ i = .int .i64 m ∧ wr.heap[w.heap.size]? = some (.cells (ints .u8 (zerosL 16)) 24 (0, 0)) ∧ wr.heap[w.heap.size + 1]? = some (.cells (ints .u64 (selTo R1 G1 t0 m)) 141 (0, 0)) ∧ wr.heap[G]? = some (.cells (ints .u64 (G1)) 141 (0, 0)) ∧ Below w.heap.size w wr) (fun _ i _ => 5 - (intOf i).toNat)
            case atStart => exact ⟨0, by omega, rfl, hR, by rw [selTo_zero]; exact hD, hGG, hB⟩
            case round =>
              clear hR hD hGG hB
              obtain ⟨m, hm5, rfl, hR, hD, hGG, hB⟩ := hrel
              have hel : (selTo R1 G1 t0 m).length = 5 := by rw [selTo_len, hrl]
              by_cases hltm : m < 5
              · have m1 : (m : Int) < 5 := by omega
                go_wp2
                go_still_tail 12, (by kernel_rfl)
                go_wp2
                go_roundw
                case rel => exact ⟨m + 1, by omega, by go_num, (by simp (disch := (first | omega | (simp only [World.size_alloc, World.size_drew, size_setRow, World.heap_drewN]; omega) | simp only [World.size_alloc, World.size_drew, size_setRow, World.heap_drewN])) only [World.heap_drewN, heap_drew, heap_alloc_past, heap_alloc_at, heap_setRow_ne, heap_setCell_eq, heap_setCell_ne', putOf_some, set_ints, hR]), by rw [selTo_succ]; exact (by simp (disch := (first | omega | (simp only [World.size_alloc, World.size_drew, size_setRow, World.heap_drewN]; omega) | simp only [World.size_alloc, World.size_drew, size_setRow, World.heap_drewN])) only [World.heap_drewN, heap_drew, heap_alloc_past, heap_alloc_at, heap_setRow_ne, heap_setCell_eq, heap_setCell_ne', putOf_some, set_ints, hD]), (by simp (disch := (first | omega | (simp only [World.size_alloc, World.size_drew, size_setRow, World.heap_drewN]; omega) | simp only [World.size_alloc, World.size_drew, size_setRow, World.heap_drewN])) only [World.heap_drewN, heap_drew, heap_alloc_past, heap_alloc_at, heap_setRow_ne, heap_setCell_eq, heap_setCell_ne', putOf_some, set_ints, hGG]), below_drewN (hB.setCell (by simp) _) 1⟩
                case measure => simp [intOf]; omega
              · have hm' := Lib.hid (show m = 5 by omega)
                go_wp2
                obtain ⟨E, hE⟩ : ∃ E, E = selTo R1 G1 t0 m := ⟨_, rfl⟩
                rw [← hE] at hD hel ⊢
                have HE := Lib.hid hE; clear hE hGG hD
                have hMw := (hB.block M hMlt.out).trans HM.out
                have hcells : ∀ wx : World, wx.heap = wr.heap → ∀ j, j ≤ 12 → ∀ x, x < 4 → cellOf wx.heap[M]? (10 + j + x) = some (.int .u8 (nth s (j + x))) := fun wx e j hj x hx => by
                  rw [e, hMw, cellOf_some, Nat.add_assoc, macC_s _ _ _ _ _ _ (by omega)]
                have hw0 : ∀ wx : World, wx.heap = wr.heap → Calls Tryd.prog 103 #[.slice (some ⟨M, 10, none⟩) 16 16] wx fun e w' => e = .returned (.int .u64 (word64At s 0)) ∧ Quiet wx w' := fun wx e => pword_cells wx M 10 16 16 s 0 (fun x hx => by rw [show 10 + x = 10 + 0 + x by omega]; exact hcells wx e 0 (by decide) x hx) hsB (by decide)
                have hw4 : ∀ wx : World, wx.heap = wr.heap → Calls Tryd.prog 103 #[.slice (some ⟨M, 14, none⟩) 12 12] wx fun e w' => e = .returned (.int .u64 (word64At s 4)) ∧ Quiet wx w' := fun wx e => pword_cells wx M 14 12 12 s 4 (fun x hx => by rw [show 14 + x = 10 + 4 + x by omega]; exact hcells wx e 4 (by decide) x hx) hsB (by decide)
                have hw8 : ∀ wx : World, wx.heap = wr.heap → Calls Tryd.prog 103 #[.slice (some ⟨M, 18, none⟩) 8 8] wx fun e w' => e = .returned (.int .u64 (word64At s 8)) ∧ Quiet wx w' := fun wx e => pword_cells wx M 18 8 8 s 8 (fun x hx => by rw [show 18 + x = 10 + 8 + x by omega]; exact hcells wx e 8 (by decide) x hx) hsB (by decide)
                have hw12 : ∀ wx : World, wx.heap = wr.heap → Calls Tryd.prog 103 #[.slice (some ⟨M, 22, none⟩) 4 4] wx fun e w' => e = .returned (.int .u64 (word64At s 12)) ∧ Quiet wx w' := fun wx e => pword_cells wx M 22 4 4 s 12 (fun x hx => by rw [show 22 + x = 10 + 12 + x by omega]; exact hcells wx e 12 (by decide) x hx) hsB (by decide)
                obtain ⟨X2, hX2⟩ : ∃ X, X = lowT E := ⟨_, rfl⟩
                obtain ⟨X3, hX3⟩ : ∃ X, X = highT E := ⟨_, rfl⟩
                have hx2 := hX2
                have hx3 := hX3
                unfold lowT at hx2
                unfold highT at hx3
                rw [← hx2, ← hx3]
                have HX2 := Lib.hid hX2
                have HX3 := Lib.hid hX3
                clear hX2 hX3 hx2 hx3 hMw
                refine wp_region_E [12] (S1 (fun _ => True) (fun w' => Quiet wr w')) (by kernel_rfl) ?_
                have hp0 : Quiet wr wr.drew := ⟨1, rfl⟩
                have hU0 : S1 (fun _ => True) (fun w' => Quiet wr w') [false] wr.drew := ⟨trivial, fun _ => hp0⟩
                try simp only [Act.put, List.setIfInBounds_toArray, List.set_cons_zero, List.set_cons_succ]
                refine takeB (i := 0) (v := ?_) rfl (by kernel_rfl) (fun _ _ _ h => h) rfl (by kernel_rfl) (by exact hU0) (fun wx hx hb => ?_) ?_
                rotate_left
                · obtain ⟨nx, rfl⟩ := hb; go_simp; try with_reducible rfl
                try simp only [Act.put, List.setIfInBounds_toArray, List.set_cons_zero, List.set_cons_succ]
                refine takeB (i := 1) (v := ?_) rfl (by kernel_rfl) (fun _ _ _ h => h) rfl (by kernel_rfl) (by exact hU0) (fun wx hx hb => ?_) ?_
                rotate_left
                · obtain ⟨nx, rfl⟩ := hb; go_simp; try with_reducible rfl
                try simp only [Act.put, List.setIfInBounds_toArray, List.set_cons_zero, List.set_cons_succ]
                refine takeB (i := 2) (v := ?_) rfl (by kernel_rfl) (fun _ _ _ h => h) rfl (by kernel_rfl) (by exact hU0) (fun wx hx hb => ?_) ?_
                rotate_left
                · obtain ⟨nx, rfl⟩ := hb; go_simp; try with_reducible rfl
                try simp only [Act.put, List.setIfInBounds_toArray, List.set_cons_zero, List.set_cons_succ]
                refine takeB (i := 3) (v := ?_) rfl (by kernel_rfl) (fun _ _ _ h => h) rfl (by kernel_rfl) (by exact hU0) (fun wx hx hb => ?_) ?_
                rotate_left
                · obtain ⟨nx, rfl⟩ := hb; go_simp; try with_reducible rfl
                try simp only [Act.put, List.setIfInBounds_toArray, List.set_cons_zero, List.set_cons_succ]
                refine takeB (i := 5) (v := ?_) rfl (by kernel_rfl) (fun _ _ _ h => h) rfl (by kernel_rfl) (by exact hU0) (fun wx hx hb => ?_) ?_
                rotate_left
                · obtain ⟨nx, rfl⟩ := hb; go_simp; try with_reducible rfl
                try simp only [Act.put, List.setIfInBounds_toArray, List.set_cons_zero, List.set_cons_succ]
                refine takeB (i := 6) (v := ?_) rfl (by kernel_rfl) (fun _ _ _ h => h) rfl (by kernel_rfl) (by exact hU0) (fun wx hx hb => ?_) ?_
                rotate_left
                · obtain ⟨nx, rfl⟩ := hb; go_simp; try with_reducible rfl
                try simp only [Act.put, List.setIfInBounds_toArray, List.set_cons_zero, List.set_cons_succ]
                refine takeB (i := 7) (v := ?_) rfl (by kernel_rfl) (fun _ _ _ h => h) rfl (by kernel_rfl) (by exact hU0) (fun wx hx hb => ?_) ?_
                rotate_left
                · obtain ⟨nx, rfl⟩ := hb; go_simp; try with_reducible rfl
                try simp only [Act.put, List.setIfInBounds_toArray, List.set_cons_zero, List.set_cons_succ]
                refine takeB (i := 8) (v := ?_) rfl (by kernel_rfl) (fun _ _ _ h => h) rfl (by kernel_rfl) (by exact hU0) (fun wx hx hb => ?_) ?_
                rotate_left
                · obtain ⟨nx, rfl⟩ := hb; go_simp; try with_reducible rfl
                try simp only [Act.put, List.setIfInBounds_toArray, List.set_cons_zero, List.set_cons_succ]
                refine runOne (i := 4) (by kernel_rfl) rfl rfl ?_
                go_simp
                refine (hw0 _ hp0.heap).mono ?_
                rintro e wp1 ⟨rfl, hq⟩
                have hp1 := hp0.trans hq
                clear hq
                have hU1 : S1 (fun _ => True) (fun w' => Quiet wr w') [false] wp1 := ⟨trivial, fun _ => hp1⟩
                refine ⟨by exact hU1, ?_⟩
                try simp only [Act.put, List.setIfInBounds_toArray, List.set_cons_zero, List.set_cons_succ]
                refine runOne (i := 9) (by kernel_rfl) rfl rfl ?_
                go_simp
                refine (hw4 _ hp1.heap).mono ?_
                rintro e wp2 ⟨rfl, hq⟩
                have hp2 := hp1.trans hq
                clear hq
                have hU2 : S1 (fun _ => True) (fun w' => Quiet wr w') [false] wp2 := ⟨trivial, fun _ => hp2⟩
                refine ⟨by exact hU2, ?_⟩
                try simp only [Act.put, List.setIfInBounds_toArray, List.set_cons_zero, List.set_cons_succ]
                refine takeB (i := 10) (v := ?_) rfl (by kernel_rfl) (fun _ _ _ h => h) rfl (by kernel_rfl) (by exact hU2) (fun wx hx hb => ?_) ?_
                rotate_left
                · obtain ⟨nx, rfl⟩ := hb; go_simp; try with_reducible rfl
                try simp only [Act.put, List.setIfInBounds_toArray, List.set_cons_zero, List.set_cons_succ]
                refine takeB (i := 11) (v := ?_) rfl (by kernel_rfl) (fun _ _ _ h => h) rfl (by kernel_rfl) (by exact hU2) (fun wx hx hb => ?_) ?_
                rotate_left
                · obtain ⟨nx, rfl⟩ := hb; go_simp; try with_reducible rfl
                try simp only [Act.put, List.setIfInBounds_toArray, List.set_cons_zero, List.set_cons_succ]
                refine runOne (i := 12) (by kernel_rfl) rfl rfl ?_
                go_simp
                refine ⟨⟨trivial, fun h => by cases h⟩, ?_⟩
                try simp only [Act.put, List.setIfInBounds_toArray, List.set_cons_zero, List.set_cons_succ]
                refine wpAnyE_done (by kernel_rfl) ?_ _
                go_wp2
                refine wp_region_E [12] (S1 (fun _ => True) (fun w' => Quiet wr w')) (by kernel_rfl) ?_
                have hv0 : Quiet wr wp2.drew := hp2.trans ⟨1, rfl⟩
                have hV0 : S1 (fun _ => True) (fun w' => Quiet wr w') [false] wp2.drew := ⟨trivial, fun _ => hv0⟩
                try simp only [Act.put, List.setIfInBounds_toArray, List.set_cons_zero, List.set_cons_succ]
                refine takeB (i := 0) (v := ?_) rfl (by kernel_rfl) (fun _ _ _ h => h) rfl (by kernel_rfl) (by exact hV0) (fun wx hx hb => ?_) ?_
                rotate_left
                · obtain ⟨nx, rfl⟩ := hb; go_simp; try with_reducible rfl
                try simp only [Act.put, List.setIfInBounds_toArray, List.set_cons_zero, List.set_cons_succ]
                refine takeB (i := 1) (v := ?_) rfl (by kernel_rfl) (fun _ _ _ h => h) rfl (by kernel_rfl) (by exact hV0) (fun wx hx hb => ?_) ?_
                rotate_left
                · obtain ⟨nx, rfl⟩ := hb; go_simp; try with_reducible rfl
                try simp only [Act.put, List.setIfInBounds_toArray, List.set_cons_zero, List.set_cons_succ]
                refine takeB (i := 2) (v := ?_) rfl (by kernel_rfl) (fun _ _ _ h => h) rfl (by kernel_rfl) (by exact hV0) (fun wx hx hb => ?_) ?_
                rotate_left
                · obtain ⟨nx, rfl⟩ := hb; go_simp; try with_reducible rfl
                try simp only [Act.put, List.setIfInBounds_toArray, List.set_cons_zero, List.set_cons_succ]
                refine takeB (i := 3) (v := ?_) rfl (by kernel_rfl) (fun _ _ _ h => h) rfl (by kernel_rfl) (by exact hV0) (fun wx hx hb => ?_) ?_
                rotate_left
                · obtain ⟨nx, rfl⟩ := hb; go_simp; try with_reducible rfl
                try simp only [Act.put, List.setIfInBounds_toArray, List.set_cons_zero, List.set_cons_succ]
                refine takeB (i := 5) (v := ?_) rfl (by kernel_rfl) (fun _ _ _ h => h) rfl (by kernel_rfl) (by exact hV0) (fun wx hx hb => ?_) ?_
                rotate_left
                · obtain ⟨nx, rfl⟩ := hb; go_simp; try with_reducible rfl
                try simp only [Act.put, List.setIfInBounds_toArray, List.set_cons_zero, List.set_cons_succ]
                refine takeB (i := 6) (v := ?_) rfl (by kernel_rfl) (fun _ _ _ h => h) rfl (by kernel_rfl) (by exact hV0) (fun wx hx hb => ?_) ?_
                rotate_left
                · obtain ⟨nx, rfl⟩ := hb; go_simp; try with_reducible rfl
                try simp only [Act.put, List.setIfInBounds_toArray, List.set_cons_zero, List.set_cons_succ]
                refine takeB (i := 7) (v := ?_) rfl (by kernel_rfl) (fun _ _ _ h => h) rfl (by kernel_rfl) (by exact hV0) (fun wx hx hb => ?_) ?_
                rotate_left
                · obtain ⟨nx, rfl⟩ := hb; go_simp; try with_reducible rfl
                try simp only [Act.put, List.setIfInBounds_toArray, List.set_cons_zero, List.set_cons_succ]
                refine takeB (i := 8) (v := ?_) rfl (by kernel_rfl) (fun _ _ _ h => h) rfl (by kernel_rfl) (by exact hV0) (fun wx hx hb => ?_) ?_
                rotate_left
                · obtain ⟨nx, rfl⟩ := hb; go_simp; try with_reducible rfl
                try simp only [Act.put, List.setIfInBounds_toArray, List.set_cons_zero, List.set_cons_succ]
                refine runOne (i := 4) (by kernel_rfl) rfl rfl ?_
                go_simp
                refine (hw8 _ hv0.heap).mono ?_
                rintro e wv1 ⟨rfl, hq⟩
                have hv1 := hv0.trans hq
                clear hq
                have hV1 : S1 (fun _ => True) (fun w' => Quiet wr w') [false] wv1 := ⟨trivial, fun _ => hv1⟩
                refine ⟨by exact hV1, ?_⟩
                try simp only [Act.put, List.setIfInBounds_toArray, List.set_cons_zero, List.set_cons_succ]
                refine runOne (i := 9) (by kernel_rfl) rfl rfl ?_
                go_simp
                refine (hw12 _ hv1.heap).mono ?_
                rintro e wv2 ⟨rfl, hq⟩
                have hv2 := hv1.trans hq
                clear hq
                have hV2 : S1 (fun _ => True) (fun w' => Quiet wr w') [false] wv2 := ⟨trivial, fun _ => hv2⟩
                refine ⟨by exact hV2, ?_⟩
                try simp only [Act.put, List.setIfInBounds_toArray, List.set_cons_zero, List.set_cons_succ]
                refine takeB (i := 10) (v := ?_) rfl (by kernel_rfl) (fun _ _ _ h => h) rfl (by kernel_rfl) (by exact hV2) (fun wx hx hb => ?_) ?_
                rotate_left
                · obtain ⟨nx, rfl⟩ := hb; go_simp; try with_reducible rfl
                try simp only [Act.put, List.setIfInBounds_toArray, List.set_cons_zero, List.set_cons_succ]
                refine takeB (i := 11) (v := ?_) rfl (by kernel_rfl) (fun _ _ _ h => h) rfl (by kernel_rfl) (by exact hV2) (fun wx hx hb => ?_) ?_
                rotate_left
                · obtain ⟨nx, rfl⟩ := hb; go_simp; try with_reducible rfl
                try simp only [Act.put, List.setIfInBounds_toArray, List.set_cons_zero, List.set_cons_succ]
                refine runOne (i := 12) (by kernel_rfl) rfl rfl ?_
                go_simp
                refine ⟨⟨trivial, fun h => by cases h⟩, ?_⟩
                try simp only [Act.put, List.setIfInBounds_toArray, List.set_cons_zero, List.set_cons_succ]
                refine wpAnyE_done (by kernel_rfl) ?_ _
                obtain ⟨Y0, hY0⟩ : ∃ X, X = sT s 0 4 := ⟨_, rfl⟩
                obtain ⟨Y1, hY1⟩ : ∃ X, X = sT s 8 12 := ⟨_, rfl⟩
                have hy0 := hY0
                have hy1 := hY1
                unfold sT at hy0 hy1
                rw [← hy0, ← hy1]
                have HY0 := Lib.hid hY0
                have HY1 := Lib.hid hY1
                clear hY0 hY1 hy0 hy1
                have hR3 : wv2.heap[w.heap.size]? = _ := (congrArg (fun h : Array Obj => h[w.heap.size]?) hv2.heap).trans hR
                have hB3 : Below w.heap.size w wv2 := hB.trans (hv2.below _)
                obtain ⟨Z, hZ⟩ : ∃ Z, Z = u64w (X3 + u64w (Y1 + overT X2 Y0)) := ⟨_, rfl⟩
                obtain ⟨V, hV⟩ : ∃ V, V = IntKind.u64.wrap (X2 + Y0) := ⟨_, rfl⟩
                have hw5 : ∀ wx, Below w.heap.size w wx → ∀ o, o = outT V Z 8 → o = tagS r h s l := fun wx _ o ho => by
                  have HEE : E = endT r h l := by rw [HE.out, hm'.out, HG1.out, HT.out, hq'.out, HR1.out, HR0.out, hk'.out, HH.out, endT, takeT]; rfl
                  rw [ho, hZ, hV, HX2.out, HX3.out, HY0.out, HY1.out, HEE]; rfl
                have hz1 : u64w (X2 + Y0) < X2 → Z = IntKind.u64.wrap (X3 + IntKind.u64.wrap (Y1 + 1)) := fun hov => by rw [hZ, overT, u64w, u64w, if_pos hov]
                have hz0 : ¬ u64w (X2 + Y0) < X2 → Z = IntKind.u64.wrap (X3 + IntKind.u64.wrap Y1) := fun hov => by rw [hZ, overT, u64w, u64w, if_neg hov, Int.add_zero]
                have HW5 := Lib.hid hw5
                have HZ1 := Lib.hid hz1
                have HZ0 := Lib.hid hz0
                have HV := Lib.hid hV
                clear hw5 hz1 hz0 hZ hV hp0 hp1 hp2 hv0 hv1 hv2 hU0 hU1 hU2 hV0 hV1 hV2 hcells hR hB HE HM hO
                by_cases hov : IntKind.u64.wrap (X2 + Y0) < X2
                · have hz := HZ1.out hov
                  have hV := HV.out
                  go_wp2
                  rw [← hz, ← hV]
                  clear hz hV hov
                  go_loopw [18, 185] (fun _ i wx => ∃ j : Nat, j ≤ 8 ∧ i = .int .i64 j ∧ wx.heap[w.heap.size]? = some (.cells (ints .u8 (outT V Z j)) 24 (0, 0)) ∧ Below w.heap.size w wx) (fun _ i _ => 8 - (intOf i).toNat)
                  case atStart => exact ⟨0, by omega, rfl, by rw [outT_zero]; exact hR3, hB3⟩
                  case round =>
                    clear hR3 hB3
                    obtain ⟨j, hj8, rfl, hR, hB⟩ := hrel
                    have hol := outT_len V Z j
                    by_cases hlj : j < 8
                    · have j1 : (j : Int) < 8 := by omega
                      have j2 : (8 : Int) + (j : Int) < 16 := by omega
                      have j3 : (0 : Int) ≤ 8 + (j : Int) := by omega
                      have j4 : (8 + (j : Int)).toNat = 8 + j := by omega
                      have j5 : (0 : Int) ≤ 8 * (j : Int) := by omega
                      have j6 : (8 * (j : Int)).toNat = 8 * j := by omega
                      have j7 : IntKind.i64.wrap (8 + (j : Int)) = 8 + (j : Int) := IntWalk.i64_in _ (by omega)
                      have j8 : IntKind.i64.wrap (8 * (j : Int)) = 8 * (j : Int) := IntWalk.i64_in _ (by omega)
                      have j9 : j < 16 := by omega
                      have j10 : 8 + j < 16 := by omega
                      have j11 : (j : Int) < 16 := by omega
                      go_wp2
                      refine wp_region_E [16] (S1 (fun _ => True) (fun _ => True)) (by kernel_rfl) ?_
                      have hI0 : ∀ wx, S1 (fun _ => True) (fun _ => True) [false] wx := fun wx => ⟨trivial, fun _ => trivial⟩
                      try simp only [Act.put, List.setIfInBounds_toArray, List.set_cons_zero, List.set_cons_succ]
                      refine takeA (i := 0) (v := ?_) rfl (by kernel_rfl) (fun _ _ _ h => h) rfl (by exact hI0 _) (fun wx hx => ?_) ?_
                      rotate_left
                      · go_simp; try with_reducible rfl
                      try simp only [Act.put, List.setIfInBounds_toArray, List.set_cons_zero, List.set_cons_succ]
                      refine takeA (i := 1) (v := ?_) rfl (by kernel_rfl) (fun _ _ _ h => h) rfl (by exact hI0 _) (fun wx hx => ?_) ?_
                      rotate_left
                      · go_simp; try with_reducible rfl
                      try simp only [Act.put, List.setIfInBounds_toArray, List.set_cons_zero, List.set_cons_succ]
                      refine takeA (i := 2) (v := ?_) rfl (by kernel_rfl) (fun _ _ _ h => h) rfl (by exact hI0 _) (fun wx hx => ?_) ?_
                      rotate_left
                      · go_simp; try with_reducible rfl
                      try simp only [Act.put, List.setIfInBounds_toArray, List.set_cons_zero, List.set_cons_succ]
                      refine takeA (i := 3) (v := ?_) rfl (by kernel_rfl) (fun _ _ _ h => h) rfl (by exact hI0 _) (fun wx hx => ?_) ?_
                      rotate_left
                      · go_simp; try with_reducible rfl
                      try simp only [Act.put, List.setIfInBounds_toArray, List.set_cons_zero, List.set_cons_succ]
                      refine takeA (i := 4) (v := ?_) rfl (by kernel_rfl) (fun _ _ _ h => h) rfl (by exact hI0 _) (fun wx hx => ?_) ?_
                      rotate_left
                      · go_simp; try with_reducible rfl
                      try simp only [Act.put, List.setIfInBounds_toArray, List.set_cons_zero, List.set_cons_succ]
                      refine takeA (i := 5) (v := ?_) rfl (by kernel_rfl) (fun _ _ _ h => h) rfl (by exact hI0 _) (fun wx hx => ?_) ?_
                      rotate_left
                      · go_simp; try with_reducible rfl
                      try simp only [Act.put, List.setIfInBounds_toArray, List.set_cons_zero, List.set_cons_succ]
                      refine takeA (i := 6) (v := ?_) rfl (by kernel_rfl) (fun _ _ _ h => h) rfl (by exact hI0 _) (fun wx hx => ?_) ?_
                      rotate_left
                      · go_simp; try with_reducible rfl
                      try simp only [Act.put, List.setIfInBounds_toArray, List.set_cons_zero, List.set_cons_succ]
                      refine takeA (i := 7) (v := ?_) rfl (by kernel_rfl) (fun _ _ _ h => h) rfl (by exact hI0 _) (fun wx hx => ?_) ?_
                      rotate_left
                      · go_simp; try with_reducible rfl
                      try simp only [Act.put, List.setIfInBounds_toArray, List.set_cons_zero, List.set_cons_succ]
                      refine takeA (i := 8) (v := ?_) rfl (by kernel_rfl) (fun _ _ _ h => h) rfl (by exact hI0 _) (fun wx hx => ?_) ?_
                      rotate_left
                      · go_simp; try with_reducible rfl
                      try simp only [Act.put, List.setIfInBounds_toArray, List.set_cons_zero, List.set_cons_succ]
                      refine takeA (i := 9) (v := ?_) rfl (by kernel_rfl) (fun _ _ _ h => h) rfl (by exact hI0 _) (fun wx hx => ?_) ?_
                      rotate_left
                      · go_simp; try with_reducible rfl
                      try simp only [Act.put, List.setIfInBounds_toArray, List.set_cons_zero, List.set_cons_succ]
                      refine takeA (i := 10) (v := ?_) rfl (by kernel_rfl) (fun _ _ _ h => h) rfl (by exact hI0 _) (fun wx hx => ?_) ?_
                      rotate_left
                      · go_simp; try with_reducible rfl
                      try simp only [Act.put, List.setIfInBounds_toArray, List.set_cons_zero, List.set_cons_succ]
                      refine takeA (i := 11) (v := ?_) rfl (by kernel_rfl) (fun _ _ _ h => h) rfl (by exact hI0 _) (fun wx hx => ?_) ?_
                      rotate_left
                      · go_simp; try with_reducible rfl
                      try simp only [Act.put, List.setIfInBounds_toArray, List.set_cons_zero, List.set_cons_succ]
                      refine takeA (i := 12) (v := ?_) rfl (by kernel_rfl) (fun _ _ _ h => h) rfl (by exact hI0 _) (fun wx hx => ?_) ?_
                      rotate_left
                      · go_simp; try with_reducible rfl
                      try simp only [Act.put, List.setIfInBounds_toArray, List.set_cons_zero, List.set_cons_succ]
                      refine takeA (i := 13) (v := ?_) rfl (by kernel_rfl) (fun _ _ _ h => h) rfl (by exact hI0 _) (fun wx hx => ?_) ?_
                      rotate_left
                      · go_simp; try with_reducible rfl
                      try simp only [Act.put, List.setIfInBounds_toArray, List.set_cons_zero, List.set_cons_succ]
                      refine runOne (i := 14) (by kernel_rfl) rfl rfl ?_
                      go_simp
                      have hI1 : ∀ wx, S1 (fun _ => True) (fun _ => True) [false] wx := fun wx => ⟨trivial, fun _ => trivial⟩
                      refine ⟨by exact hI1 _, ?_⟩
                      try simp only [Act.put, List.setIfInBounds_toArray, List.set_cons_zero, List.set_cons_succ]
                      refine takeA (i := 15) (v := ?_) rfl (by kernel_rfl) (fun _ _ _ h => h) rfl (by exact hI1 _) (fun wx hx => ?_) ?_
                      rotate_left
                      · go_simp; try with_reducible rfl
                      try simp only [Act.put, List.setIfInBounds_toArray, List.set_cons_zero, List.set_cons_succ]
                      refine runOne (i := 16) (by kernel_rfl) rfl rfl ?_
                      go_simp
                      have hI2 : ∀ wx, S1 (fun _ => True) (fun _ => True) [true] wx := fun wx => ⟨trivial, fun _ => trivial⟩
                      refine ⟨by exact hI2 _, ?_⟩
                      try simp only [Act.put, List.setIfInBounds_toArray, List.set_cons_zero, List.set_cons_succ]
                      refine wpAnyE_done (by kernel_rfl) ?_ _
                      go_wp2
                      go_roundw
                      case rel => exact ⟨j + 1, by omega, by go_num, by rw [outT_succ]; exact (by simp (disch := (first | omega | (simp only [World.size_alloc, World.size_drew, size_setRow, World.heap_drewN]; omega) | simp only [World.size_alloc, World.size_drew, size_setRow, World.heap_drewN])) only [World.heap_drewN, heap_drew, heap_alloc_past, heap_alloc_at, heap_setRow_ne, heap_setCell_eq, heap_setCell_ne', putOf_some, set_ints, hR]), ((hB.setCell (by simp) _).setCell (by simp) _).drew⟩
                      case measure => simp [intOf]; omega
                    · have hj' := Lib.hid (show j = 8 by omega)
                      go_wp2_with (first | (refine ld_ints rfl (ty := 24) rfl rfl (by exact hR) Tryd.underlying24 (by kernel_rfl) hol ?_) | (refine st_row (n := 16) rfl (ty := 24) rfl rfl rfl (by exact hR) (by kernel_rfl) (by rw [size_ints, hol]) (by rw [size_ints, hol]) (oneCell_ints _ _) ?_))
                      refine end_row (n := 16) rfl rfl (setRow_heap _ _ _ _ 24 (0,0) (by exact hR)) Tryd.underlying24 rfl (by kernel_rfl) (by rw [size_ints, hol]) rfl ⟨?_, belowRow hB (by omega) _⟩
                      rw [HW5.out _ hB (outT V Z j) (by rw [hj'.out])]
                · have hz := HZ0.out hov
                  have hV := HV.out
                  go_wp2
                  rw [← hz, ← hV]
                  clear hz hV hov
                  go_loopw [18, 185] (fun _ i wx => ∃ j : Nat, j ≤ 8 ∧ i = .int .i64 j ∧ wx.heap[w.heap.size]? = some (.cells (ints .u8 (outT V Z j)) 24 (0, 0)) ∧ Below w.heap.size w wx) (fun _ i _ => 8 - (intOf i).toNat)
                  case atStart => exact ⟨0, by omega, rfl, by rw [outT_zero]; exact hR3, hB3⟩
                  case round =>
                    clear hR3 hB3
                    obtain ⟨j, hj8, rfl, hR, hB⟩ := hrel
                    have hol := outT_len V Z j
                    by_cases hlj : j < 8
                    · have j1 : (j : Int) < 8 := by omega
                      have j2 : (8 : Int) + (j : Int) < 16 := by omega
                      have j3 : (0 : Int) ≤ 8 + (j : Int) := by omega
                      have j4 : (8 + (j : Int)).toNat = 8 + j := by omega
                      have j5 : (0 : Int) ≤ 8 * (j : Int) := by omega
                      have j6 : (8 * (j : Int)).toNat = 8 * j := by omega
                      have j7 : IntKind.i64.wrap (8 + (j : Int)) = 8 + (j : Int) := IntWalk.i64_in _ (by omega)
                      have j8 : IntKind.i64.wrap (8 * (j : Int)) = 8 * (j : Int) := IntWalk.i64_in _ (by omega)
                      have j9 : j < 16 := by omega
                      have j10 : 8 + j < 16 := by omega
                      have j11 : (j : Int) < 16 := by omega
                      go_wp2
                      refine wp_region_E [16] (S1 (fun _ => True) (fun _ => True)) (by kernel_rfl) ?_
                      have hI0 : ∀ wx, S1 (fun _ => True) (fun _ => True) [false] wx := fun wx => ⟨trivial, fun _ => trivial⟩
                      try simp only [Act.put, List.setIfInBounds_toArray, List.set_cons_zero, List.set_cons_succ]
                      refine takeA (i := 0) (v := ?_) rfl (by kernel_rfl) (fun _ _ _ h => h) rfl (by exact hI0 _) (fun wx hx => ?_) ?_
                      rotate_left
                      · go_simp; try with_reducible rfl
                      try simp only [Act.put, List.setIfInBounds_toArray, List.set_cons_zero, List.set_cons_succ]
                      refine takeA (i := 1) (v := ?_) rfl (by kernel_rfl) (fun _ _ _ h => h) rfl (by exact hI0 _) (fun wx hx => ?_) ?_
                      rotate_left
                      · go_simp; try with_reducible rfl
                      try simp only [Act.put, List.setIfInBounds_toArray, List.set_cons_zero, List.set_cons_succ]
                      refine takeA (i := 2) (v := ?_) rfl (by kernel_rfl) (fun _ _ _ h => h) rfl (by exact hI0 _) (fun wx hx => ?_) ?_
                      rotate_left
                      · go_simp; try with_reducible rfl
                      try simp only [Act.put, List.setIfInBounds_toArray, List.set_cons_zero, List.set_cons_succ]
                      refine takeA (i := 3) (v := ?_) rfl (by kernel_rfl) (fun _ _ _ h => h) rfl (by exact hI0 _) (fun wx hx => ?_) ?_
                      rotate_left
                      · go_simp; try with_reducible rfl
                      try simp only [Act.put, List.setIfInBounds_toArray, List.set_cons_zero, List.set_cons_succ]
                      refine takeA (i := 4) (v := ?_) rfl (by kernel_rfl) (fun _ _ _ h => h) rfl (by exact hI0 _) (fun wx hx => ?_) ?_
                      rotate_left
                      · go_simp; try with_reducible rfl
                      try simp only [Act.put, List.setIfInBounds_toArray, List.set_cons_zero, List.set_cons_succ]
                      refine takeA (i := 5) (v := ?_) rfl (by kernel_rfl) (fun _ _ _ h => h) rfl (by exact hI0 _) (fun wx hx => ?_) ?_
                      rotate_left
                      · go_simp; try with_reducible rfl
                      try simp only [Act.put, List.setIfInBounds_toArray, List.set_cons_zero, List.set_cons_succ]
                      refine takeA (i := 6) (v := ?_) rfl (by kernel_rfl) (fun _ _ _ h => h) rfl (by exact hI0 _) (fun wx hx => ?_) ?_
                      rotate_left
                      · go_simp; try with_reducible rfl
                      try simp only [Act.put, List.setIfInBounds_toArray, List.set_cons_zero, List.set_cons_succ]
                      refine takeA (i := 7) (v := ?_) rfl (by kernel_rfl) (fun _ _ _ h => h) rfl (by exact hI0 _) (fun wx hx => ?_) ?_
                      rotate_left
                      · go_simp; try with_reducible rfl
                      try simp only [Act.put, List.setIfInBounds_toArray, List.set_cons_zero, List.set_cons_succ]
                      refine takeA (i := 8) (v := ?_) rfl (by kernel_rfl) (fun _ _ _ h => h) rfl (by exact hI0 _) (fun wx hx => ?_) ?_
                      rotate_left
                      · go_simp; try with_reducible rfl
                      try simp only [Act.put, List.setIfInBounds_toArray, List.set_cons_zero, List.set_cons_succ]
                      refine takeA (i := 9) (v := ?_) rfl (by kernel_rfl) (fun _ _ _ h => h) rfl (by exact hI0 _) (fun wx hx => ?_) ?_
                      rotate_left
                      · go_simp; try with_reducible rfl
                      try simp only [Act.put, List.setIfInBounds_toArray, List.set_cons_zero, List.set_cons_succ]
                      refine takeA (i := 10) (v := ?_) rfl (by kernel_rfl) (fun _ _ _ h => h) rfl (by exact hI0 _) (fun wx hx => ?_) ?_
                      rotate_left
                      · go_simp; try with_reducible rfl
                      try simp only [Act.put, List.setIfInBounds_toArray, List.set_cons_zero, List.set_cons_succ]
                      refine takeA (i := 11) (v := ?_) rfl (by kernel_rfl) (fun _ _ _ h => h) rfl (by exact hI0 _) (fun wx hx => ?_) ?_
                      rotate_left
                      · go_simp; try with_reducible rfl
                      try simp only [Act.put, List.setIfInBounds_toArray, List.set_cons_zero, List.set_cons_succ]
                      refine takeA (i := 12) (v := ?_) rfl (by kernel_rfl) (fun _ _ _ h => h) rfl (by exact hI0 _) (fun wx hx => ?_) ?_
                      rotate_left
                      · go_simp; try with_reducible rfl
                      try simp only [Act.put, List.setIfInBounds_toArray, List.set_cons_zero, List.set_cons_succ]
                      refine takeA (i := 13) (v := ?_) rfl (by kernel_rfl) (fun _ _ _ h => h) rfl (by exact hI0 _) (fun wx hx => ?_) ?_
                      rotate_left
                      · go_simp; try with_reducible rfl
                      try simp only [Act.put, List.setIfInBounds_toArray, List.set_cons_zero, List.set_cons_succ]
                      refine runOne (i := 14) (by kernel_rfl) rfl rfl ?_
                      go_simp
                      have hI1 : ∀ wx, S1 (fun _ => True) (fun _ => True) [false] wx := fun wx => ⟨trivial, fun _ => trivial⟩
                      refine ⟨by exact hI1 _, ?_⟩
                      try simp only [Act.put, List.setIfInBounds_toArray, List.set_cons_zero, List.set_cons_succ]
                      refine takeA (i := 15) (v := ?_) rfl (by kernel_rfl) (fun _ _ _ h => h) rfl (by exact hI1 _) (fun wx hx => ?_) ?_
                      rotate_left
                      · go_simp; try with_reducible rfl
                      try simp only [Act.put, List.setIfInBounds_toArray, List.set_cons_zero, List.set_cons_succ]
                      refine runOne (i := 16) (by kernel_rfl) rfl rfl ?_
                      go_simp
                      have hI2 : ∀ wx, S1 (fun _ => True) (fun _ => True) [true] wx := fun wx => ⟨trivial, fun _ => trivial⟩
                      refine ⟨by exact hI2 _, ?_⟩
                      try simp only [Act.put, List.setIfInBounds_toArray, List.set_cons_zero, List.set_cons_succ]
                      refine wpAnyE_done (by kernel_rfl) ?_ _
                      go_wp2
                      go_roundw
                      case rel => exact ⟨j + 1, by omega, by go_num, by rw [outT_succ]; exact (by simp (disch := (first | omega | (simp only [World.size_alloc, World.size_drew, size_setRow, World.heap_drewN]; omega) | simp only [World.size_alloc, World.size_drew, size_setRow, World.heap_drewN])) only [World.heap_drewN, heap_drew, heap_alloc_past, heap_alloc_at, heap_setRow_ne, heap_setCell_eq, heap_setCell_ne', putOf_some, set_ints, hR]), ((hB.setCell (by simp) _).setCell (by simp) _).drew⟩
                      case measure => simp [intOf]; omega
                    · have hj' := Lib.hid (show j = 8 by omega)
                      go_wp2_with (first | (refine ld_ints rfl (ty := 24) rfl rfl (by exact hR) Tryd.underlying24 (by kernel_rfl) hol ?_) | (refine st_row (n := 16) rfl (ty := 24) rfl rfl rfl (by exact hR) (by kernel_rfl) (by rw [size_ints, hol]) (by rw [size_ints, hol]) (oneCell_ints _ _) ?_))
                      refine end_row (n := 16) rfl rfl (setRow_heap _ _ _ _ 24 (0,0) (by exact hR)) Tryd.underlying24 rfl (by kernel_rfl) (by rw [size_ints, hol]) rfl ⟨?_, belowRow hB (by omega) _⟩
                      rw [HW5.out _ hB (outT V Z j) (by rw [hj'.out])]
attribute [irreducible] tagS endT lowT highT sT overT lastT
end Go.Proofs.YtjieiijbgbkikaaDoor
end
