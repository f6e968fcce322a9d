/- Lemmas of a proof over the given program, joined by wip/join.py: KOctN KVals KStruct KPkt KPkA KEqA. -/
import Derived.Test.YtjieiijbgbkikaaDoorJ01
import Derived.Test.YtjieiijbgbkikaaDoorChecked
import Derived.Deep.QuietTactic
import Derived.BigQuiet
import Derived.IntWalk
import Derived.Outline
import Derived.Laws.StructEq
set_option linter.unusedSimpArgs false
set_option linter.unusedVariables false
section
/- Package octet: Number, Block; slices.Clone at bytes. -/
namespace Go.Proofs.YtjieiijbgbkikaaDoor
open Go Go.RowKit
set_option maxRecDepth 100000
attribute [local go_sem] cell?_eq frozen?_eq heap_setCell_eq heap_setCell_ne

theorem SL.none {k : IntKind} {w : World} {l : List Int} (h : SL k w none l) : l = [] := by
  rcases h with h | ⟨b, off, e, _⟩
  · exact h
  · cases e
/-- What follows is a copy of its own. -/
theorem clone_any (l : List Int) (hl : l.length ≤ 1099511627776) (p : Option Addr) (cap : Nat) (w : World) (hS : SL .u8 w p l) :
    Calls Tryd.prog 80 #[.slice p l.length cap] w fun e w' => ∃ v, e = .returned v ∧ Own w.heap.size w' 5 .u8 v l ∧ Below w.heap.size w w' := by
  cases p with
  | none =>
    have e := hS.none
    subst e
    have hq := fun wx => Lib.run_eql_slice_nil (P := Tryd.prog) wx 25 5 none 0 cap 0 0 Tryd.underlying25
    go_enter Tryd.func80, Tryd.ntmps80
    go_wp2
    go_ret
    exact ⟨_, rfl, Own.nil _ _ _ _, Below.refl _ _⟩
  | some a =>
    have hq := fun wx => Lib.run_eql_slice_nil (P := Tryd.prog) wx 25 5 (some a) l.length cap 0 0 Tryd.underlying25
    go_enter Tryd.func80, Tryd.ntmps80
    go_wp2_with (refine ap_ints rfl rfl Tryd.underlying25 (E := 5) (k := .u8) (by' := 1) (by kernel_rfl) (by decide) (base := w.heap.size) (v := .slice (some ⟨w.heap.size, 0, none⟩) 0 0) (l := []) (m := l) rfl (by exact Own.fresh w _ _ (Nat.le_refl _)) rfl rfl (by exact hS.alloc _) (by simp; omega) (by simp) ?_; intro v1 w1 hO1 hg1 _; rw [List.nil_append] at hO1)
    go_ret
    exact ⟨_, rfl, hO1, Own.grown (Own.fresh w 5 .u8 (Nat.le_refl _)) ((Below.refl _ _).alloc (Nat.le_refl _) _) (by simp) hg1⟩
/-- How many bytes a number has. -/
def numN (x : Nat) : Nat := if x = 0 then 0 else numN (x / 256) + 1
  termination_by x
  decreasing_by omega
theorem numN_zero : numN 0 = 0 := by unfold numN; rfl
theorem numN_pos {x : Nat} (h : 0 < x) : numN x = numN (x / 256) + 1 := by rw [numN, if_neg (by omega)]
theorem numN_le (d : Nat) : ∀ x, x < 256 ^ d → numN x ≤ d := by
  induction d with
  | zero => intro x hx; have : x = 0 := by simpa using hx
            rw [this, numN_zero]; exact Nat.le_refl _
  | succ d ih =>
    intro x hx
    by_cases h : x = 0
    · rw [h, numN_zero]; omega
    · rw [numN_pos (by omega)]
      have := ih (x / 256) (by rw [Nat.pow_succ] at hx; omega)
      omega
/-- The first d of n bytes, the highest first. -/
def beTo (x : Int) (n : Nat) : Nat → List Int
  | 0 => []
  | d + 1 => beTo x n d ++ [x / 2 ^ (8 * (n - 1 - d)) % 256]
theorem beTo_zero (x : Int) (n : Nat) : beTo x n 0 = [] := rfl
theorem beTo_succ (x : Int) (n d : Nat) : beTo x n (d + 1) = beTo x n d ++ [x / 2 ^ (8 * (n - 1 - d)) % 256] := rfl
theorem beTo_len (x : Int) (n d : Nat) : (beTo x n d).length = d := by induction d <;> simp [beTo, *]
theorem beTo_bd (x : Int) (n d : Nat) : Bd 256 (beTo x n d) := by
  induction d with
  | zero => exact Bd.nil (by decide)
  | succ d ih => exact ih.append (by decide) (Bd.cons (by omega) (by omega) (Bd.nil (by decide)))
/-- A number's bytes. -/
def numS (x : Int) : List Int := (numN x.toNat : Int) :: beTo x (numN x.toNat) (numN x.toNat)
theorem numS_len (x : Int) : (numS x).length = numN x.toNat + 1 := by simp [numS, beTo_len]
def u64lim (x : Int) : Prop := 0 ≤ x ∧ x < 18446744073709551616
theorem numN_u64 {x : Int} (h : u64lim x) : numN x.toNat ≤ 8 := by
  unfold u64lim at h
  exact numN_le 8 _ (by have : (256:Nat) ^ 8 = 18446744073709551616 := by decide
                        rw [this]; omega)
theorem numS_bd {x : Int} (h : u64lim x) : Bd 256 (numS x) := Bd.cons (by omega) (by have := numN_u64 h; omega) (beTo_bd _ _ _)
attribute [irreducible] beTo
set_option maxHeartbeats 4000000 in
theorem number_any (l : List Int) (x : Int) (hx : u64lim x) (hl : l.length ≤ 1073741824) (p : Option Addr) (cap : Nat) (w : World) (hS : SL .u8 w p l) :
    Calls Tryd.prog 51 #[.slice p l.length cap, .int .u64 x] w fun e w' => ∃ v, e = .returned v ∧ Own w.heap.size w' 5 .u8 v (l ++ numS x) ∧ Below w.heap.size w w' := by
  have hn8 := numN_u64 hx
  have hx0 := hx.1
  have HX := Lib.hid hx; clear hx
  obtain ⟨N, hN⟩ : ∃ N, N = numN x.toNat := ⟨_, rfl⟩
  rw [← hN] at hn8
  have HN := Lib.hid hN; clear hN
  go_enter Tryd.func51, Tryd.ntmps51
  go_wp2_with (go_at_call 80; refine (clone_any l (by omega) p cap w hS).mono ?_; rintro e w1 ⟨v1, rfl, hO1, hB1⟩)
  go_loop [5, 6] (fun n yv => ∃ (k : Nat) (y : Int), n = .int .i64 k ∧ yv = .int .u64 y ∧ 0 ≤ y ∧ k + numN y.toNat = N) (fun _ yv => (intOf yv).toNat)
  case atStart => exact ⟨0, x, rfl, rfl, hx0, by rw [HN.out]; omega⟩
  case round =>
    obtain ⟨k, y, rfl, rfl, hy0, hk⟩ := hrel
    have Hk := Lib.hid hk; clear hk
    by_cases hy : 0 < y
    · have k9 : (k : Int) ≤ 8 := by have := Hk.out; omega
      go_wp2
      go_round
      case rel =>
        refine ⟨k + 1, y / 256, by go_num, rfl, by omega, ?_⟩
        have h1 := Hk.out
        rw [numN_pos (by omega), show y.toNat / 256 = (y / 256).toNat by omega] at h1
        omega
      case measure => simp [intOf]; omega
    · have hk : k = N := by have := Hk.out; rw [show y.toNat = 0 by omega, numN_zero] at this; omega
      clear Hk
      subst hk
      have n1 : IntKind.i64.wrap ((k : Int) - 1) = (k : Int) - 1 := IntWalk.i64_in _ (by omega)
      obtain ⟨p1, c1, rfl, hS1, hc1⟩ := hO1.form
      go_wp2_with (refine ap_ints rfl rfl Tryd.underlying25 (E := 5) (k := .u8) (by' := 1) (by kernel_rfl) (by decide) (base := w.heap.size) (v := .slice p1 l.length c1) (l := l) (m := [(k : Int)]) rfl (by exact hO1.below ((Below.refl _ _).alloc (Nat.le_refl _) _)) rfl rfl (by exact SL.row_all (heap_alloc_at _ _ _ rfl)) (by simp; omega) (by have := hB1.size; simp; omega) ?_; intro v2 w2 hO2 hg2 _)
      have hB2 := hO1.below ((Below.refl _ w1).alloc (Nat.le_refl _) (.cells #[Value.int .u8 (k : Int)] 5))
      have hBw2 := Own.grown hB2 (hB1.alloc hB1.size _) (by have := hB1.size; simp; omega) hg2
      have HN' := HN
      clear hg2 hB2 hO1 hS1 hc1 hB1 hS HN
      go_loopw [0, 7] (fun bv iv wr => ∃ d : Nat, d ≤ k ∧ iv = .int .i64 ((k : Int) - 1 - d) ∧ Own w.heap.size wr 5 .u8 bv ((l ++ [(k : Int)]) ++ beTo x k d) ∧ Below w.heap.size w wr) (fun _ iv _ => (intOf iv + 1).toNat)
      case atStart => exact ⟨0, by omega, by simp, by rw [beTo_zero, List.append_nil]; exact hO2, hBw2⟩
      case round =>
        clear hO2 hBw2
        obtain ⟨d, hd, rfl, hO, hB⟩ := hrel
        have hwz := hB.size
        obtain ⟨p2, c2, rfl, hS2, hc2⟩ := hO.form
        obtain ⟨L, hL⟩ : ∃ L, L = (l ++ [(k : Int)]) ++ beTo x k d := ⟨_, rfl⟩
        have hLl : L.length ≤ 1073741824 + 9 := by rw [hL]; simp [beTo_len]; omega
        rw [← hL] at hO hS2 hc2 ⊢
        have HL := Lib.hid hL; clear hL
        by_cases hlt : d < k
        · have g1 : 0 ≤ (k : Int) - 1 - d := by omega
          have g2 : IntKind.u64.wrap ((k : Int) - 1 - d) = (k : Int) - 1 - d := IntWalk.u64_in _ (by omega)
          have g3 : IntKind.u64.wrap (8 * ((k : Int) - 1 - d)) = 8 * ((k : Int) - 1 - d) := IntWalk.u64_in _ (by omega)
          have g4 : (8 * ((k : Int) - 1 - d)).toNat = 8 * (k - 1 - d) := by omega
          have g5 : IntKind.i64.wrap ((k : Int) - 1 - d - 1) = (k : Int) - 1 - d - 1 := IntWalk.i64_in _ (by omega)
          go_wp2_with (refine ap_ints rfl rfl Tryd.underlying25 (E := 5) (k := .u8) (by' := 1) (by kernel_rfl) (by decide) (base := w.heap.size) (v := .slice p2 L.length c2) (l := L) (m := [x / 2 ^ (8 * (k - 1 - d)) % 256]) rfl (by exact hO.below ((Below.refl _ _).alloc (Nat.le_refl _) _)) rfl rfl (by exact SL.row_all (heap_alloc_at _ _ _ rfl)) (by simp; omega) (by simp; omega) ?_; intro v3 w3 hO3 hg3 _)
          have hB3 := Own.grown (hO.below ((Below.refl _ wr).alloc (Nat.le_refl _) (.cells #[Value.int .u8 (x / 2 ^ (8 * (k - 1 - d)) % 256)] 5))) (hB.alloc hwz _) (by simp; omega) hg3
          go_roundw
          case rel =>
            refine ⟨d + 1, by omega, by rw [show ((k : Int) - 1 - d - 1) = (k : Int) - 1 - ((d + 1 : Nat) : Int) by omega], ?_, hB3⟩
            rw [beTo_succ, ← List.append_assoc, ← HL.out]; exact hO3
          case measure => simp [intOf]; omega
        · have hd' : d = k := by omega
          have g0 : (k : Int) - 1 - d < 0 := by omega
          have Hd := Lib.hid hd'; clear hd'
          go_wp2
          go_ret
          refine ⟨_, rfl, ?_, hB⟩
          have hh : L = l ++ numS x := by rw [HL.out, Hd.out, List.append_assoc, numS, ← HN'.out]; rfl
          rw [hh] at hO; rw [hh]; exact hO
/-- A block's bytes. -/
def blkS (p : List Int) : List Int := numS p.length ++ p
theorem blkS_bd {p : List Int} (hp : Bd 256 p) (hl : p.length ≤ 1048576) : Bd 256 (blkS p) := (numS_bd ⟨by omega, by omega⟩).append (by decide) hp
theorem blkS_len (p : List Int) : (blkS p).length = numN p.length + 1 + p.length := by simp [blkS, numS_len]
set_option maxHeartbeats 4000000 in
theorem oblock_any (l m : List Int) (hl : l.length ≤ 1073741824) (hm : m.length ≤ 1048576) (p q : Option Addr) (cap cq : Nat) (w : World) (hS : SL .u8 w p l) (hQ : SL .u8 w q m) :
    Calls Tryd.prog 74 #[.slice p l.length cap, .slice q m.length cq] w fun e w' => ∃ v, e = .returned (.tuple #[v, .int .i64 0]) ∧ Own w.heap.size w' 5 .u8 v (l ++ blkS m) ∧ Below w.heap.size w w' := by
  have h1 : ¬ 1048576 < (m.length : Int) := by omega
  have h2 : IntKind.u64.wrap (m.length : Int) = (m.length : Int) := IntWalk.u64_in _ (by omega)
  have hlim : u64lim (m.length : Int) := ⟨by omega, by omega⟩
  have hn := numN_u64 hlim
  have hnl := numS_len (m.length : Int)
  have Hlim := Lib.hid hlim; clear hlim
  go_enter Tryd.func74, Tryd.ntmps74
  go_wp2_with (first | (go_at_call 51; refine (number_any l _ Hlim.out hl p cap w hS).mono ?_; rintro e w1 ⟨v1, rfl, hO1, hB1⟩) | (refine ap_ints rfl rfl Tryd.underlying25 (E := 5) (k := .u8) (by' := 1) (by kernel_rfl) (by decide) (base := w.heap.size) (v := v1) (l := l ++ numS m.length) (m := m) rfl (by exact hO1) rfl rfl (by exact hQ.below hB1) (by rw [List.length_append]; omega) (by have := hB1.size; omega) ?_; intro v2 w2 hO2 hg2 _))
  refine bodyPost_ret (v := .tuple #[v2, .int .i64 0]) (by simp [results, Tryd.results74, go_sem]) rfl ⟨_, rfl, ?_, Own.grown hO1 hB1 hB1.size hg2⟩
  rw [blkS, ← List.append_assoc]; exact hO2
attribute [irreducible] numS
end Go.Proofs.YtjieiijbgbkikaaDoor
end
section
/- Slices of values: appended to, read. No program is used here. -/
namespace Go.Proofs.YtjieiijbgbkikaaDoor
open Go Go.RowKit

theorem run_loadAt_SL {P : Program} {w : World} {b off : Nat} {ty : TypeId} {k : IntKind} {l : List Int} {n : Nat} {e : TypeId} (hS : SL k w (some ⟨b, off, none⟩) l) (hl : l.length = n) (hu : P.underlying ty = some (.array n e))
    (hi : (P.info? ty).map (·.size) = some n) : (Instr.loadAt ty (.pointer (some ⟨b, off, none⟩))).run P w = .ok (.agg (ints k l)) w := by
  have hlc : (loadCells ⟨b, off, none⟩ (l.map (Value.int k)).length).run P w = .ok (l.map (Value.int k)).toArray w :=
    run_loadCells_list (P := P) w ⟨b, off, none⟩ _ (fun j v hv => by
      have hj : j < l.length := by have := (List.getElem?_eq_some_iff.1 hv).1; simpa using this
      obtain ⟨b', o', e, hc⟩ := hS.open hj
      cases e
      have hadd : (⟨b, off, none⟩ : Addr).add j = ⟨b, off + j, none⟩ := by unfold Addr.add; split <;> simp_all
      rw [hadd, hc j hj, nth_lt hj]
      simpa [hj] using hv)
  cases hq : P.info? ty with
  | none => simp [hq] at hi
  | some i =>
    have hs : i.size = n := by simpa [hq] using hi
    have hagg : (isAgg ty).run P w = .ok true w := by
      unfold isAgg
      rw [Sem.run_bind, run_underlying hu w]
      rfl
    rw [List.length_map, hl] at hlc
    simp only [Instr.loadAt, Instr.sureAddr, loadVar, Sem.run_bind, Sem.run_pure, hagg, sizeOf, typeInfo, hq, hs, hlc, Result.andThen_ok, if_true, program, Sem.run, ints]
/-- The slice that begins at p reads as the values vs. -/
def SV (w : World) (p : Option Addr) (vs : List Value) : Prop :=
  vs = [] ∨ ∃ b off, p = some ⟨b, off, none⟩ ∧ ∀ i v, vs[i]? = some v → w.cell? ⟨b, off + i, none⟩ = some v
theorem SV.below {w w' : World} {p : Option Addr} {vs : List Value} (h : SV w p vs) (hb : Below w.heap.size w w') : SV w' p vs := by
  rcases h with h | ⟨b, off, rfl, hc⟩
  · exact .inl h
  · exact .inr ⟨b, off, rfl, fun i v hv => by
      have h1 := hc i v hv
      rw [hb.cell (p := ⟨b, off + i, none⟩) (World.block_lt_of_cell? w ⟨b, off + i, none⟩ h1)]; exact h1⟩
theorem SV.row {w : World} {g : Nat} {vs : List Value} {cs : Array Value} {T : TypeId} {fr : Nat × Nat} (hg : w.heap[g]? = some (.cells cs T fr)) (hc : cs = vs.toArray) : SV w (some ⟨g, 0, none⟩) vs := by
  subst hc
  refine .inr ⟨g, 0, rfl, fun i v hv => ?_⟩
  rw [cell_of_row w g _ _ T fr hg, Nat.zero_add]
  simpa using hv
/-- The slice value v owns the values vs. -/
def OwnV (base : Nat) (w : World) (E : TypeId) (v : Value) (vs : List Value) : Prop := w.ownsRow base E 1 v vs.length vs
theorem OwnV.form {base : Nat} {w : World} {E : TypeId} {v : Value} {vs : List Value} (h : OwnV base w E v vs) : ∃ p cap, v = .slice p vs.length cap ∧ SV w p vs ∧ vs.length ≤ cap := by
  obtain ⟨h1, h2⟩ := h
  rcases h2 with ⟨rfl, h0⟩ | ⟨g, cap, cur, rfl, hb, hg, hle, hm, hs, ht⟩
  · have : vs = [] := List.eq_nil_of_length_eq_zero h0
    subst this; exact ⟨none, 0, rfl, .inl rfl, Nat.le_refl _⟩
  · refine ⟨_, cap, rfl, .inr ⟨g, 0, rfl, fun i v hv => ?_⟩, hle⟩
    rw [Nat.zero_add, cell_of_row w g i _ E _ hg]
    have hi : i < vs.length := (List.getElem?_eq_some_iff.1 hv).1
    have h3 : (cur.toList.take (vs.length * 1))[i]? = vs[i]? := by rw [ht]
    rw [List.getElem?_take_of_lt (by omega), hv] at h3
    simpa using h3
theorem OwnV.of_row {base : Nat} {w : World} {E : TypeId} {g : Nat} {vs : List Value} {cs : Array Value} (hg : w.heap[g]? = some (.cells cs E (0, 0))) (hc : cs = vs.toArray) (hb : base ≤ g) (hm : vs.length ≤ maxLen) :
    OwnV base w E (.slice (some ⟨g, 0, none⟩) vs.length vs.length) vs := by
  subst hc
  exact ⟨by simp, .inr ⟨g, vs.length, vs.toArray, rfl, hb, hg, Nat.le_refl _, hm, by simp, by rw [Nat.mul_one]; exact List.take_of_length_le (by simp)⟩⟩
theorem OwnV.below {base : Nat} {w w' : World} {E : TypeId} {v : Value} {l : List Value} (h : OwnV base w E v l) (hb : Below w.heap.size w w') : OwnV base w' E v l := by
  obtain ⟨h1, h2⟩ := h
  refine ⟨h1, h2.imp id ?_⟩
  rintro ⟨g, cap, cur, rfl, hb', hg, r⟩
  exact ⟨g, cap, cur, rfl, hb', (hb.block g (Array.getElem?_eq_some_iff.1 hg).1).trans hg, r⟩
theorem OwnV.mono {base base' : Nat} {w : World} {E : TypeId} {v : Value} {l : List Value} (h : OwnV base w E v l) (hb : base' ≤ base) : OwnV base' w E v l := by
  obtain ⟨h1, h2⟩ := h
  refine ⟨h1, h2.imp id ?_⟩
  rintro ⟨g, cap, cur, rfl, hb', r⟩
  exact ⟨g, cap, cur, rfl, Nat.le_trans hb hb', r⟩
theorem OwnV.grown {base : Nat} {w0 w w' : World} {E : TypeId} {v : Value} {l : List Value} (h : OwnV base w E v l) (hb : Below base w0 w) (hB : base ≤ w.heap.size) (hg : w.grownBy w' v.ownBlock) : Below base w0 w' :=
  (Kep.of_grown (S := fun g => v.ownBlock = some g) hg (fun _ e => e)).below hb hB (fun g e => (World.ownsRow.lt h g e).1)
/-- The values are slices of bytes that read as ls. -/
def SLs (w : World) (vs : List Value) (ls : List (List Int)) : Prop :=
  vs.length = ls.length ∧ ∀ (i : Nat) (l : List Int), ls[i]? = some l → ∃ (p : Option Addr) (cap : Nat), vs[i]? = some (Value.slice p l.length cap) ∧ SL .u8 w p l ∧ l.length ≤ cap
theorem SLs.below {w w' : World} {vs : List Value} {ls : List (List Int)} (h : SLs w vs ls) (hb : Below w.heap.size w w') : SLs w' vs ls :=
  ⟨h.1, fun i l hl => by obtain ⟨p, cap, h1, h2, h3⟩ := h.2 i l hl; exact ⟨p, cap, h1, h2.below hb, h3⟩⟩
theorem SLs.nil (w : World) : SLs w [] [] := ⟨rfl, fun i l h => by simp at h⟩
theorem SLs.cons {w : World} {p : Option Addr} {cap : Nat} {l : List Int} {vs : List Value} {ls : List (List Int)} (hl : SL .u8 w p l) (hc : l.length ≤ cap) (h : SLs w vs ls) : SLs w (Value.slice p l.length cap :: vs) (l :: ls) := by
  refine ⟨by simp [h.1], fun i m hm => ?_⟩
  cases i with
  | zero => simp only [List.getElem?_cons_zero, Option.some.injEq] at hm; subst hm; exact ⟨p, cap, rfl, hl, hc⟩
  | succ i => simp only [List.getElem?_cons_succ] at hm ⊢; exact h.2 i m hm
theorem SLs.one {w : World} {vs : List Value} {ls : List (List Int)} (h : SLs w vs ls) : ∀ u ∈ vs, u.oneCell' = true := by
  intro u hu
  obtain ⟨i, hi, rfl⟩ := List.mem_iff_getElem.1 hu
  obtain ⟨p, cap, h1, _, _⟩ := h.2 i _ (List.getElem?_eq_getElem (show i < ls.length by rw [← h.1]; exact hi))
  rw [List.getElem?_eq_getElem hi] at h1
  rw [Option.some.inj h1]; rfl
section
variable {P : Program} {ops : Array Oper} {rest : List Oper} {o : Oper} {a : Act} {w : World} {Q Q' : Exit → Act → World → Prop}
/-- append(s, x...): slices of values of one cell, s the call's own. -/
theorem ap_vals (hgd : o.guard = none) {s x : Operand} {t : TypeId} (ho : o.op = .call { callee := .builtin .append, args := #[s, x], argTypes := #[t, t] })
    {E : TypeId} {z : Value} {by' : Nat} (ht : P.underlying t = some (.slice E)) (hi : (P.info? E).map (fun i => (i.zero, i.size, i.bytes)) = some (some z, 1, by')) (hz1 : z.cells.size = 1) (hby : by' ≤ 64)
    {base : Nat} {v : Value} {l : List Value} (hs : a.eval s = v) (hown : OwnV base w E v l) {p : Option Addr} {sLen sCap : Nat} {m : List Value} (hx : a.eval x = .slice p sLen sCap) (hsl : sLen = m.length) (hsrc : SV w p m) (h1 : ∀ u ∈ m, u.oneCell' = true)
    (hlen : l.length + m.length ≤ 1073741824) (hbase : base ≤ w.heap.size)
    (h : ∀ v' w', OwnV base w' E v' (l ++ m) → w.grownBy w' v.ownBlock → wpList P ops Q rest (a.put o.dst v') w') : wpList P ops Q (o :: rest) a w := by
  cases hq : P.info? E with
  | none => simp [hq] at hi
  | some i =>
    simp [hq] at hi
    obtain ⟨hz, hs1, hb⟩ := hi
    by_cases hm : m = []
    · subst hm
      simp only [List.length_nil] at hsl
      subst hsl
      refine wpList_plain hgd fun K hK => ?_
      have hrun := run_append_none (P := P) (w := w) (ty := o.type) ht hq hown p sCap
      unfold Oper.wp
      simp [execOp, ho, resolve, invoke, builtin, hs, hx, hrun, Result.andThen]
      exact hK _ _ (h v w (by simpa using hown) ⟨rfl, rfl, rfl, Nat.le_refl _, fun _ _ _ => rfl⟩)
    · rcases hsrc with hsrc | ⟨b, off, rfl, hc⟩
      · exact absurd hsrc hm
      have hv : ∀ j u, m[j]? = some u → w.cell? ((⟨b, off, none⟩ : Addr).add j) = some u := fun j u hu => by
        have hadd : (⟨b, off, none⟩ : Addr).add j = ⟨b, off + j, none⟩ := by unfold Addr.add; split <;> simp_all
        rw [hadd]; exact hc j u hu
      refine wpList_append_own w hgd s x t ho base E i z 1 by' ht hq hz hs1 hb hz1 (by decide) v l.length l hs hown ⟨b, off, none⟩ m.length sCap m (by rw [hx, hsl]) (by simp) hv h1 (by simp only [maxLen]; omega) (by
        have h2 : (l.length + m.length) * by' ≤ 1073741824 * 64 := Nat.mul_le_mul hlen hby
        omega) hbase ?_
      intro v' w' h2 h3 _
      refine h v' w' ?_ h3
      unfold OwnV
      rw [List.length_append]
      exact h2
theorem run_sliceAt_bytes {T E : TypeId} (hT : P.underlying T = some (.slice E)) (hs : (P.info? E).map (·.size) = some 1) {k : IntKind} {p : Option Addr} {l : List Int} {cap i j : Nat} {lo hi : Option Value} (hS : SL k w p l) (hc : l.length ≤ cap)
    (hlo : lo = none ∧ i = 0 ∨ lo = some (.int .i64 (i : Int))) (hhi : hi = none ∧ j = l.length ∨ hi = some (.int .i64 (j : Int))) (hij : i ≤ j) (hj : j ≤ l.length) :
    ∃ p', (Instr.sliceAt T (.slice p l.length cap) lo hi none).run P w = .ok (.slice p' (j - i) (cap - i)) w ∧ SL k w p' ((l.drop i).take (j - i)) ∧ (∀ a, p' = some a → ∃ a', p = some a' ∧ a'.block = a.block) := by
  cases hq : P.info? E with
  | none => simp [hq] at hs
  | some q =>
    have hs' : q.size = 1 := by simpa [hq] using hs
    have hbr : (Instr.sliceBounds true l.length cap lo hi none).run P w = .ok (i, j, cap) w := by
      have h1 : (0 : Int) ≤ (i : Int) ∧ (i : Int) ≤ (j : Int) := by omega
      have h2 : (0 : Int) ≤ (j : Int) ∧ (j : Int) ≤ (cap : Int) := by omega
      unfold Instr.sliceBounds Instr.sliceBound
      rcases hlo with ⟨rfl, rfl⟩ | rfl <;> rcases hhi with ⟨rfl, rfl⟩ | rfl <;> simp [asIntOf, h1, h2, Sem.run_bind, Sem.run_pure, Result.andThen_ok]
      · intro h; omega
      · intro h; omega
      · rw [if_pos (by omega), if_pos hij]
    refine ⟨if cap = i then p else p.map (·.add (i * 1)), ?_, ?_, ?_⟩
    · unfold Instr.sliceAt Instr.slice
      simp [run_underlying hT, Sem.run_bind, Result.andThen, hbr, sizeOf, typeInfo, hq, hs']
    · by_cases hci : cap = i
      · have : j - i = 0 := by omega
        rw [this, List.take_zero]; exact .inl rfl
      · rw [if_neg hci, Nat.mul_one]
        by_cases hn : (l.drop i).take (j - i) = []
        · exact .inl hn
        · rcases hS with hS | ⟨b, off, rfl, hcell⟩
          · subst hS; simp at hn
          · have hadd : (⟨b, off, none⟩ : Addr).add i = ⟨b, off + i, none⟩ := by unfold Addr.add; split <;> simp_all
            rw [Option.map_some, hadd]
            exact SL.sub (.inr ⟨b, off, rfl, hcell⟩) i (j - i) (by omega)
    · intro a ha
      by_cases hci : cap = i
      · rw [if_pos hci] at ha; exact ⟨a, ha, rfl⟩
      · rw [if_neg hci, Nat.mul_one] at ha
        cases p with
        | none => simp at ha
        | some a' => simp at ha; subst ha; exact ⟨a', rfl, by unfold Addr.add; split <;> rfl⟩
/-- A value boxed: the world and the block by name. -/
theorem bx_abs (hgd : o.guard = none) {ty : TypeId} {x : Operand} (ho : o.op = .box ty x) {cs : Array Value} (hx : a.eval x = .agg cs)
    (h : ∀ (W : World) (Q : Nat), W.heap[Q]? = some (.cells cs ty (0, 0)) → Below w.heap.size w W → w.heap.size ≤ Q → RowKit.Hid (Q < W.heap.size) → wpList P ops Q' rest (a.put o.dst (.pointer (some ⟨Q, 0, none⟩))) W) : wpList P ops Q' (o :: rest) a w := by
  refine wpList_plain hgd fun K hK => ?_
  unfold Oper.wp execOp
  simp only [ho, hx]
  have := hK _ _ (h (w.alloc (.cells cs ty)) w.heap.size (heap_alloc_new w _) ((Below.refl _ _).alloc (Nat.le_refl _) _) (Nat.le_refl _) (by show _ < _; simp))
  simp [Instr.box, newVar, newRow, newObj, Sem.run, Value.cells]
  exact this
/-- A new variable: the world and the block by name. -/
theorem al_abs (hgd : o.guard = none) {T : TypeId} (ho : o.op = .alloc T) {cs : Array Value} (hz : (P.info? T).map (·.zero) = some (some (.agg cs)))
    (h : ∀ (W : World) (Q : Nat), W.heap[Q]? = some (.cells cs T (0, 0)) → Below w.heap.size w W → w.heap.size ≤ Q → RowKit.Hid (Q < W.heap.size) → wpList P ops Q' rest (a.put o.dst (.pointer (some ⟨Q, 0, none⟩))) W) : wpList P ops Q' (o :: rest) a w :=
  al_row hgd ho hz (h (w.alloc (.cells cs T)) w.heap.size (heap_alloc_new w _) ((Below.refl _ _).alloc (Nat.le_refl _) _) (Nat.le_refl _) (by show _ < _; simp))
/-- x[i:j], x[i:], x[:j] of a slice of integers. -/
theorem sl_ints (hgd : o.guard = none) {T : TypeId} {x : Operand} {lo hi : Option Operand} (ho : o.op = .slice T x lo hi none) {E : TypeId} (hT : P.underlying T = some (.slice E)) (hs : (P.info? E).map (·.size) = some 1)
    {k : IntKind} {p : Option Addr} {l : List Int} {len cap i j : Nat} (hx : a.eval x = .slice p len cap) (hl : len = l.length) (hS : SL k w p l) (hc : len ≤ cap)
    (hlo : lo.map a.eval = none ∧ i = 0 ∨ lo.map a.eval = some (.int .i64 (i : Int))) (hhi : hi.map a.eval = none ∧ j = len ∨ hi.map a.eval = some (.int .i64 (j : Int))) (hij : i ≤ j) (hj : j ≤ len)
    (h : ∀ p', SL k w p' ((l.drop i).take (j - i)) → (∀ a, p' = some a → ∃ a', p = some a' ∧ a'.block = a.block) → wpList P ops Q rest (a.put o.dst (.slice p' (j - i) (cap - i))) w) : wpList P ops Q (o :: rest) a w := by
  subst hl
  obtain ⟨p', h1, h2, h3⟩ := run_sliceAt_bytes (P := P) (w := w) hT hs hS hc hlo hhi hij hj
  refine wpList_plain hgd fun K hK => ?_
  unfold Oper.wp execOp
  simp only [ho, hx, Sem.run_bind, Option.map_none, h1, Result.andThen_ok]
  exact hK _ _ (h p' h2 h3)
end
end Go.Proofs.YtjieiijbgbkikaaDoor
end
section
/- The cells of a struct: an array made by a function. No program is used here. -/
namespace Go.Proofs.YtjieiijbgbkikaaDoor
open Go Go.RowKit
set_option maxRecDepth 100000

theorem ofFn_set (f : Nat → Value) (n o : Nat) (v : Value) : (Array.ofFn (n := n) fun i => f i.val).setIfInBounds o v = Array.ofFn (n := n) fun i => if i.val = o then v else f i.val := by
  apply Array.ext_getElem?
  intro i
  rw [Array.getElem?_setIfInBounds, Array.getElem?_ofFn, Array.getElem?_ofFn]
  by_cases hi : i < n
  · by_cases e : o = i
    · subst e; simp [hi]
    · simp [hi, e, show ¬ i = o from fun h => e h.symm]
  · by_cases e : o = i
    · subst e; simp [hi]
    · simp [hi, e]
theorem overC_get (cs : Array Value) (off : Nat) (new : Array Value) (i : Nat) (h : off + new.size ≤ cs.size) (hi : i < cs.size) : (overC cs off new)[i]? = if i < off then cs[i]? else if i < off + new.size then new[i - off]? else cs[i]? := by
  unfold overC
  have h1 : (cs.toList.take off).length = off := by simp; omega
  simp only [List.getElem?_toArray]
  by_cases h0 : i < off
  · rw [if_pos h0, List.append_assoc, List.getElem?_append_left (by omega), List.getElem?_take_of_lt h0, Array.getElem?_toList]
  · rw [if_neg h0]
    by_cases h2 : i < off + new.size
    · rw [if_pos h2, List.getElem?_append_left (by rw [List.length_append, h1, Array.length_toList]; omega), List.getElem?_append_right (by omega), h1, Array.getElem?_toList]
    · rw [if_neg h2, List.getElem?_append_right (by rw [List.length_append, h1, Array.length_toList]; omega), List.getElem?_drop, List.length_append, h1, Array.length_toList, Array.getElem?_toList]
      congr 1; omega
theorem overC_size (cs : Array Value) (off : Nat) (new : Array Value) (h : off + new.size ≤ cs.size) : (overC cs off new).size = cs.size := by
  simp [overC]; omega
theorem ofFn_over (f : Nat → Value) (n off : Nat) {k : IntKind} (l : List Int) (m : Nat) (hm : off + m ≤ n) (h : l.length = m) :
    overC (Array.ofFn (n := n) fun i => f i.val) off (ints k l) = Array.ofFn (n := n) fun i => if off ≤ i.val ∧ i.val < off + m then .int k (nth l (i.val - off)) else f i.val := by
  have hs : off + (ints k l).size ≤ (Array.ofFn (n := n) fun i => f i.val).size := by simp [h]; omega
  apply Array.ext_getElem?
  intro i
  by_cases hi : i < n
  · rw [overC_get _ _ _ _ hs (by simpa using hi), size_ints, h, Array.getElem?_ofFn, Array.getElem?_ofFn]
    by_cases h0 : i < off
    · simp [hi, h0, show ¬ off ≤ i by omega]
    · by_cases h1 : i < off + m
      · rw [if_neg h0, if_pos h1, get_ints_lt _ _ _ (by omega)]; simp [hi, h1, show off ≤ i by omega]
      · simp [hi, h0, h1]
  · rw [Array.getElem?_eq_none (by rw [overC_size _ _ _ hs]; simpa using hi), Array.getElem?_eq_none (by simpa using hi)]
theorem ext_ints {cs : Array Value} {off n : Nat} {k : IntKind} {l : List Int} (hs : off + n ≤ cs.size) (hl : l.length = n) (h : ∀ i, i < n → cs[off + i]? = some (.int k (nth l i))) : cs.extract off (off + n) = ints k l := by
  apply Array.ext_getElem?
  intro i
  by_cases hi : i < n
  · rw [Array.getElem?_extract_of_lt (by omega), ← Array.getElem?_eq_getElem (by omega), h i hi, get_ints_lt _ _ _ (by omega)]
  · rw [Array.getElem?_eq_none (by simp; omega), Array.getElem?_eq_none (by simp; omega)]
theorem ints_lit_16 (k : IntKind) (l : List Int) (h : l.length = 16) : (#[.int k (nth l 0), .int k (nth l 1), .int k (nth l 2), .int k (nth l 3), .int k (nth l 4), .int k (nth l 5), .int k (nth l 6), .int k (nth l 7), .int k (nth l 8), .int k (nth l 9), .int k (nth l 10), .int k (nth l 11), .int k (nth l 12), .int k (nth l 13), .int k (nth l 14), .int k (nth l 15)] : Array Value) = ints k l := by
  match l, h with
  | [_, _, _, _, _, _, _, _, _, _, _, _, _, _, _, _], _ => rfl
theorem ints_lit_32 (k : IntKind) (l : List Int) (h : l.length = 32) : (#[.int k (nth l 0), .int k (nth l 1), .int k (nth l 2), .int k (nth l 3), .int k (nth l 4), .int k (nth l 5), .int k (nth l 6), .int k (nth l 7), .int k (nth l 8), .int k (nth l 9), .int k (nth l 10), .int k (nth l 11), .int k (nth l 12), .int k (nth l 13), .int k (nth l 14), .int k (nth l 15), .int k (nth l 16), .int k (nth l 17), .int k (nth l 18), .int k (nth l 19), .int k (nth l 20), .int k (nth l 21), .int k (nth l 22), .int k (nth l 23), .int k (nth l 24), .int k (nth l 25), .int k (nth l 26), .int k (nth l 27), .int k (nth l 28), .int k (nth l 29), .int k (nth l 30), .int k (nth l 31)] : Array Value) = ints k l := by
  match l, h with
  | [_, _, _, _, _, _, _, _, _, _, _, _, _, _, _, _, _, _, _, _, _, _, _, _, _, _, _, _, _, _, _, _], _ => rfl
end Go.Proofs.YtjieiijbgbkikaaDoor
end
section
/- The cells of an api.Packet. No program is used here. -/
namespace Go.Proofs.YtjieiijbgbkikaaDoor
open Go Go.RowKit
set_option maxRecDepth 100000
structure Pkt where
  kind : Int
  peer : Int
  session : Int
  epoch : Int
  count : Int
  random : List Int
  mark : List Int
def pktC_f (x : Pkt) (vbody : Value) (i : Nat) : Value := if i < 1 then .int .i64 x.kind else if i < 2 then .int .i64 x.peer else if i < 3 then .int .u64 x.session else if i < 4 then .int .u32 x.epoch else if i < 5 then .int .u64 x.count else if i < 21 then .int .u8 (nth x.random (i - 5)) else if i < 37 then .int .u8 (nth x.mark (i - 21)) else vbody
def pktC (x : Pkt) (vbody : Value) : Array Value := Array.ofFn (n := 38) fun i => pktC_f x vbody i.val
@[go_sem] theorem pktC_size (x : Pkt) (vbody : Value) : (pktC x vbody).size = 38 := by simp [pktC]
theorem pktC_get (x : Pkt) (vbody : Value) (i : Nat) (hi : i < 38) : (pktC x vbody)[i]? = some (pktC_f x vbody i) := by unfold pktC; rw [Array.getElem?_ofFn]; simp [hi]
theorem pktC_at (x : Pkt) (vbody : Value) (i : Nat) (hi : i < (pktC x vbody).size) : (pktC x vbody)[i] = pktC_f x vbody i := by
  have h1 := pktC_get x vbody i (by simpa [pktC_size] using hi)
  rw [Array.getElem?_eq_getElem hi] at h1
  exact Option.some.inj h1
@[go_sem] theorem pktC_kind (x : Pkt) (vbody : Value) : (pktC x vbody)[0]? = some (.int .i64 x.kind) := pktC_get x vbody 0 (by decide)
@[go_sem] theorem pktC_e_kind (x : Pkt) (vbody : Value) (hi : 0 < (pktC x vbody).size) : (pktC x vbody)[0] = .int .i64 x.kind := pktC_at x vbody 0 hi
@[go_sem] theorem pktC_set_kind (x : Pkt) (vbody : Value) (kind' : Int) : (pktC x vbody).setIfInBounds 0 (.int .i64 kind') = pktC { x with kind := kind' } vbody := by
  unfold pktC; rw [ofFn_set]; congr 1; funext i; obtain ⟨i, hi⟩ := i; show (if i = 0 then .int .i64 kind' else pktC_f x vbody i) = pktC_f { x with kind := kind' } vbody i
  by_cases e : i = 0
  · subst e; rfl
  · rw [if_neg e]; unfold pktC_f; exact ite_congr rfl (fun hj => absurd hj (by omega)) (fun _ => rfl)
@[go_sem] theorem pktC_peer (x : Pkt) (vbody : Value) : (pktC x vbody)[1]? = some (.int .i64 x.peer) := pktC_get x vbody 1 (by decide)
@[go_sem] theorem pktC_e_peer (x : Pkt) (vbody : Value) (hi : 1 < (pktC x vbody).size) : (pktC x vbody)[1] = .int .i64 x.peer := pktC_at x vbody 1 hi
@[go_sem] theorem pktC_set_peer (x : Pkt) (vbody : Value) (peer' : Int) : (pktC x vbody).setIfInBounds 1 (.int .i64 peer') = pktC { x with peer := peer' } vbody := by
  unfold pktC; rw [ofFn_set]; congr 1; funext i; obtain ⟨i, hi⟩ := i; show (if i = 1 then .int .i64 peer' else pktC_f x vbody i) = pktC_f { x with peer := peer' } vbody i
  by_cases e : i = 1
  · subst e; rfl
  · rw [if_neg e]; unfold pktC_f; exact ite_congr rfl (fun _ => rfl) (fun h0 => ite_congr rfl (fun hj => absurd hj (by omega)) (fun _ => rfl))
@[go_sem] theorem pktC_session (x : Pkt) (vbody : Value) : (pktC x vbody)[2]? = some (.int .u64 x.session) := pktC_get x vbody 2 (by decide)
@[go_sem] theorem pktC_e_session (x : Pkt) (vbody : Value) (hi : 2 < (pktC x vbody).size) : (pktC x vbody)[2] = .int .u64 x.session := pktC_at x vbody 2 hi
@[go_sem] theorem pktC_set_session (x : Pkt) (vbody : Value) (session' : Int) : (pktC x vbody).setIfInBounds 2 (.int .u64 session') = pktC { x with session := session' } vbody := by
  unfold pktC; rw [ofFn_set]; congr 1; funext i; obtain ⟨i, hi⟩ := i; show (if i = 2 then .int .u64 session' else pktC_f x vbody i) = pktC_f { x with session := session' } vbody i
  by_cases e : i = 2
  · subst e; rfl
  · rw [if_neg e]; unfold pktC_f; exact ite_congr rfl (fun _ => rfl) (fun h0 => ite_congr rfl (fun _ => rfl) (fun h1 => ite_congr rfl (fun hj => absurd hj (by omega)) (fun _ => rfl)))
@[go_sem] theorem pktC_epoch (x : Pkt) (vbody : Value) : (pktC x vbody)[3]? = some (.int .u32 x.epoch) := pktC_get x vbody 3 (by decide)
@[go_sem] theorem pktC_e_epoch (x : Pkt) (vbody : Value) (hi : 3 < (pktC x vbody).size) : (pktC x vbody)[3] = .int .u32 x.epoch := pktC_at x vbody 3 hi
@[go_sem] theorem pktC_set_epoch (x : Pkt) (vbody : Value) (epoch' : Int) : (pktC x vbody).setIfInBounds 3 (.int .u32 epoch') = pktC { x with epoch := epoch' } vbody := by
  unfold pktC; rw [ofFn_set]; congr 1; funext i; obtain ⟨i, hi⟩ := i; show (if i = 3 then .int .u32 epoch' else pktC_f x vbody i) = pktC_f { x with epoch := epoch' } vbody i
  by_cases e : i = 3
  · subst e; rfl
  · rw [if_neg e]; unfold pktC_f; exact ite_congr rfl (fun _ => rfl) (fun h0 => ite_congr rfl (fun _ => rfl) (fun h1 => ite_congr rfl (fun _ => rfl) (fun h2 => ite_congr rfl (fun hj => absurd hj (by omega)) (fun _ => rfl))))
@[go_sem] theorem pktC_count (x : Pkt) (vbody : Value) : (pktC x vbody)[4]? = some (.int .u64 x.count) := pktC_get x vbody 4 (by decide)
@[go_sem] theorem pktC_e_count (x : Pkt) (vbody : Value) (hi : 4 < (pktC x vbody).size) : (pktC x vbody)[4] = .int .u64 x.count := pktC_at x vbody 4 hi
@[go_sem] theorem pktC_set_count (x : Pkt) (vbody : Value) (count' : Int) : (pktC x vbody).setIfInBounds 4 (.int .u64 count') = pktC { x with count := count' } vbody := by
  unfold pktC; rw [ofFn_set]; congr 1; funext i; obtain ⟨i, hi⟩ := i; show (if i = 4 then .int .u64 count' else pktC_f x vbody i) = pktC_f { x with count := count' } vbody i
  by_cases e : i = 4
  · subst e; rfl
  · rw [if_neg e]; unfold pktC_f; exact ite_congr rfl (fun _ => rfl) (fun h0 => ite_congr rfl (fun _ => rfl) (fun h1 => ite_congr rfl (fun _ => rfl) (fun h2 => ite_congr rfl (fun _ => rfl) (fun h3 => ite_congr rfl (fun hj => absurd hj (by omega)) (fun _ => rfl)))))
theorem pktC_el_random (x : Pkt) (vbody : Value) (i : Nat) (hi : i < 16) : (pktC x vbody)[5 + i]? = some (.int .u8 (nth x.random i)) := by
  rw [pktC_get _ _ _ (by omega)]; unfold pktC_f; rw [if_neg (by omega), if_neg (by omega), if_neg (by omega), if_neg (by omega), if_neg (by omega), if_pos (by omega)]; rw [show 5 + i - 5 = i by omega]
theorem pktC_ext_random (x : Pkt) (vbody : Value) (h : x.random.length = 16) : (pktC x vbody).extract 5 (5 + 16) = ints .u8 x.random := by
  refine ext_ints (by simp [pktC_size]) (by omega) fun i hi => ?_
  exact pktC_el_random x vbody i hi
theorem pktC_row_random (x : Pkt) (vbody : Value) (h : x.random.length = 16) {p0 : 5 < (pktC x vbody).size} {p1 : 6 < (pktC x vbody).size} {p2 : 7 < (pktC x vbody).size} {p3 : 8 < (pktC x vbody).size} {p4 : 9 < (pktC x vbody).size} {p5 : 10 < (pktC x vbody).size} {p6 : 11 < (pktC x vbody).size} {p7 : 12 < (pktC x vbody).size} {p8 : 13 < (pktC x vbody).size} {p9 : 14 < (pktC x vbody).size} {p10 : 15 < (pktC x vbody).size} {p11 : 16 < (pktC x vbody).size} {p12 : 17 < (pktC x vbody).size} {p13 : 18 < (pktC x vbody).size} {p14 : 19 < (pktC x vbody).size} {p15 : 20 < (pktC x vbody).size} : (#[(pktC x vbody)[5], (pktC x vbody)[6], (pktC x vbody)[7], (pktC x vbody)[8], (pktC x vbody)[9], (pktC x vbody)[10], (pktC x vbody)[11], (pktC x vbody)[12], (pktC x vbody)[13], (pktC x vbody)[14], (pktC x vbody)[15], (pktC x vbody)[16], (pktC x vbody)[17], (pktC x vbody)[18], (pktC x vbody)[19], (pktC x vbody)[20]] : Array Value) = ints .u8 x.random := by
  rw [← ints_lit_16 .u8 x.random h]
  simp only [pktC_at]
  rfl
theorem pktC_over_random (x : Pkt) (vbody : Value) (random' : List Int) (h : random'.length = 16) : overC (pktC x vbody) 5 (ints .u8 random') = pktC { x with random := random' } vbody := by
  unfold pktC; rw [ofFn_over _ _ _ _ 16 (by omega) h]; congr 1; funext i; obtain ⟨i, hi⟩ := i; show (if 5 ≤ i ∧ i < 5 + 16 then Value.int .u8 (nth random' (i - 5)) else pktC_f x vbody i) = pktC_f { x with random := random' } vbody i
  by_cases e : 5 ≤ i ∧ i < 5 + 16
  · rw [if_pos e]; obtain ⟨e1, e2⟩ := e; unfold pktC_f; rw [if_neg (by omega), if_neg (by omega), if_neg (by omega), if_neg (by omega), if_neg (by omega), if_pos (by omega)]
  · rw [if_neg e]; unfold pktC_f; exact ite_congr rfl (fun _ => rfl) (fun h0 => ite_congr rfl (fun _ => rfl) (fun h1 => ite_congr rfl (fun _ => rfl) (fun h2 => ite_congr rfl (fun _ => rfl) (fun h3 => ite_congr rfl (fun _ => rfl) (fun h4 => ite_congr rfl (fun hj => absurd hj (by omega)) (fun _ => rfl))))))
theorem pktC_el_mark (x : Pkt) (vbody : Value) (i : Nat) (hi : i < 16) : (pktC x vbody)[21 + i]? = some (.int .u8 (nth x.mark i)) := by
  rw [pktC_get _ _ _ (by omega)]; unfold pktC_f; rw [if_neg (by omega), if_neg (by omega), if_neg (by omega), if_neg (by omega), if_neg (by omega), if_neg (by omega), if_pos (by omega)]; rw [show 21 + i - 21 = i by omega]
theorem pktC_ext_mark (x : Pkt) (vbody : Value) (h : x.mark.length = 16) : (pktC x vbody).extract 21 (21 + 16) = ints .u8 x.mark := by
  refine ext_ints (by simp [pktC_size]) (by omega) fun i hi => ?_
  exact pktC_el_mark x vbody i hi
theorem pktC_row_mark (x : Pkt) (vbody : Value) (h : x.mark.length = 16) {p0 : 21 < (pktC x vbody).size} {p1 : 22 < (pktC x vbody).size} {p2 : 23 < (pktC x vbody).size} {p3 : 24 < (pktC x vbody).size} {p4 : 25 < (pktC x vbody).size} {p5 : 26 < (pktC x vbody).size} {p6 : 27 < (pktC x vbody).size} {p7 : 28 < (pktC x vbody).size} {p8 : 29 < (pktC x vbody).size} {p9 : 30 < (pktC x vbody).size} {p10 : 31 < (pktC x vbody).size} {p11 : 32 < (pktC x vbody).size} {p12 : 33 < (pktC x vbody).size} {p13 : 34 < (pktC x vbody).size} {p14 : 35 < (pktC x vbody).size} {p15 : 36 < (pktC x vbody).size} : (#[(pktC x vbody)[21], (pktC x vbody)[22], (pktC x vbody)[23], (pktC x vbody)[24], (pktC x vbody)[25], (pktC x vbody)[26], (pktC x vbody)[27], (pktC x vbody)[28], (pktC x vbody)[29], (pktC x vbody)[30], (pktC x vbody)[31], (pktC x vbody)[32], (pktC x vbody)[33], (pktC x vbody)[34], (pktC x vbody)[35], (pktC x vbody)[36]] : Array Value) = ints .u8 x.mark := by
  rw [← ints_lit_16 .u8 x.mark h]
  simp only [pktC_at]
  rfl
theorem pktC_over_mark (x : Pkt) (vbody : Value) (mark' : List Int) (h : mark'.length = 16) : overC (pktC x vbody) 21 (ints .u8 mark') = pktC { x with mark := mark' } vbody := by
  unfold pktC; rw [ofFn_over _ _ _ _ 16 (by omega) h]; congr 1; funext i; obtain ⟨i, hi⟩ := i; show (if 21 ≤ i ∧ i < 21 + 16 then Value.int .u8 (nth mark' (i - 21)) else pktC_f x vbody i) = pktC_f { x with mark := mark' } vbody i
  by_cases e : 21 ≤ i ∧ i < 21 + 16
  · rw [if_pos e]; obtain ⟨e1, e2⟩ := e; unfold pktC_f; rw [if_neg (by omega), if_neg (by omega), if_neg (by omega), if_neg (by omega), if_neg (by omega), if_neg (by omega), if_pos (by omega)]
  · rw [if_neg e]; unfold pktC_f; exact ite_congr rfl (fun _ => rfl) (fun h0 => ite_congr rfl (fun _ => rfl) (fun h1 => ite_congr rfl (fun _ => rfl) (fun h2 => ite_congr rfl (fun _ => rfl) (fun h3 => ite_congr rfl (fun _ => rfl) (fun h4 => ite_congr rfl (fun _ => rfl) (fun h5 => ite_congr rfl (fun hj => absurd hj (by omega)) (fun _ => rfl)))))))
@[go_sem] theorem pktC_body (x : Pkt) (vbody : Value) : (pktC x vbody)[37]? = some (vbody) := pktC_get x vbody 37 (by decide)
@[go_sem] theorem pktC_e_body (x : Pkt) (vbody : Value) (hi : 37 < (pktC x vbody).size) : (pktC x vbody)[37] = vbody := pktC_at x vbody 37 hi
@[go_sem] theorem pktC_set_body (x : Pkt) (vbody : Value) (vbody' : Value) : (pktC x vbody).setIfInBounds 37 (vbody') = pktC x vbody' := by
  unfold pktC; rw [ofFn_set]; congr 1; funext i; obtain ⟨i, hi⟩ := i; show (if i = 37 then vbody' else pktC_f x vbody i) = pktC_f x vbody' i
  by_cases e : i = 37
  · subst e; rfl
  · rw [if_neg e]; unfold pktC_f; exact ite_congr rfl (fun _ => rfl) (fun h0 => ite_congr rfl (fun _ => rfl) (fun h1 => ite_congr rfl (fun _ => rfl) (fun h2 => ite_congr rfl (fun _ => rfl) (fun h3 => ite_congr rfl (fun _ => rfl) (fun h4 => ite_congr rfl (fun _ => rfl) (fun h5 => ite_congr rfl (fun _ => rfl) (fun h6 => absurd hi (by omega))))))))
theorem pktC_one (x : Pkt) (vbody : Value) (hvbody : vbody.oneCell' = true) : (pktC x vbody).all (·.oneCell') = true := by
  rw [Array.all_eq_true]
  intro i hi
  rw [pktC_at]
  unfold pktC_f
  repeat' split
  all_goals first | rfl | assumption
attribute [irreducible] pktC
end Go.Proofs.YtjieiijbgbkikaaDoor
end
section
/- Package packet: has, of; slices.Contains at ints. -/
namespace Go.Proofs.YtjieiijbgbkikaaDoor
open Go Go.RowKit
set_option maxRecDepth 100000
attribute [local go_sem] cell?_eq frozen?_eq heap_setCell_eq heap_setCell_ne

/-- What a kind has. -/
def hasS (kind : Int) : List Int := if kind = 1 then [0, 4] else if kind = 2 then [1, 2, 4] else if kind = 3 then [1, 2, 3, 5] else if kind = 4 then [1] else []
def HasPost (kind : Int) (w : World) (e : Ending) (w' : World) : Prop :=
  ∃ p, e = .returned (.slice p (hasS kind).length (hasS kind).length) ∧ SL .i64 w' p (hasS kind) ∧ (p = none ↔ hasS kind = []) ∧ Below w.heap.size w w' ∧ ∀ a, p = some a → w.heap.size ≤ a.block
theorem hasS_lt {kind : Int} {i : Nat} (h : i < (hasS kind).length) : 0 ≤ nth (hasS kind) i ∧ nth (hasS kind) i < 6 := by
  unfold hasS at h ⊢
  split at h
  · rename_i e; simp only [e, if_true]; match i, h with
    | 0, _ => decide
    | 1, _ => decide
  split at h
  · rename_i e1 e; simp only [e1, e, if_true, if_false]; match i, h with
    | 0, _ => decide
    | 1, _ => decide
    | 2, _ => decide
  split at h
  · rename_i e1 e2 e; simp only [e1, e2, e, if_true, if_false]; match i, h with
    | 0, _ => decide
    | 1, _ => decide
    | 2, _ => decide
    | 3, _ => decide
  split at h
  · rename_i e1 e2 e3 e; simp only [e1, e2, e3, e, if_true, if_false]; match i, h with
    | 0, _ => decide
  · simp at h
theorem hasS_len (kind : Int) : (hasS kind).length ≤ 4 := by
  unfold hasS
  split
  · decide
  split
  · decide
  split
  · decide
  split
  · decide
  · decide
set_option maxHeartbeats 4000000 in
theorem has_any (kind : Int) (w : World) : Calls Tryd.prog 27 #[.int .i64 kind] w (HasPost kind w) := by
  have hb : ∀ (l : List Int), Below w.heap.size w (w.alloc (.cells (ints .i64 l) 3)) := fun l => (Below.refl _ _).alloc (Nat.le_refl _) _
  by_cases h1 : kind = 1
  · subst h1
    go_enter Tryd.func27, Tryd.ntmps27
    go_wp2
    go_ret
    exact ⟨_, rfl, SL.row_all (l := [0, 4]) (blk1_0 w (.cells (ints .i64 [0, 4]) 3)), ⟨(fun h => by cases h), (fun h => absurd h (by decide))⟩, hb [0, 4], (fun a e => by cases e; exact Nat.le_refl _)⟩
  have e1 : (kind == 1) = false := beq_eq_false_iff_ne.2 h1
  by_cases h2 : kind = 2
  · subst h2
    go_enter Tryd.func27, Tryd.ntmps27
    go_wp2
    go_ret
    exact ⟨_, rfl, SL.row_all (l := [1, 2, 4]) (blk1_0 w (.cells (ints .i64 [1, 2, 4]) 3)), ⟨(fun h => by cases h), (fun h => absurd h (by decide))⟩, hb [1, 2, 4], (fun a e => by cases e; exact Nat.le_refl _)⟩
  have e2 : (kind == 2) = false := beq_eq_false_iff_ne.2 h2
  by_cases h3 : kind = 3
  · subst h3
    go_enter Tryd.func27, Tryd.ntmps27
    go_wp2
    go_ret
    exact ⟨_, rfl, SL.row_all (l := [1, 2, 3, 5]) (blk1_0 w (.cells (ints .i64 [1, 2, 3, 5]) 3)), ⟨(fun h => by cases h), (fun h => absurd h (by decide))⟩, hb [1, 2, 3, 5], (fun a e => by cases e; exact Nat.le_refl _)⟩
  have e3 : (kind == 3) = false := beq_eq_false_iff_ne.2 h3
  by_cases h4 : kind = 4
  · subst h4
    go_enter Tryd.func27, Tryd.ntmps27
    go_wp2
    go_ret
    exact ⟨_, rfl, SL.row_all (l := [1]) (blk1_0 w (.cells (ints .i64 [1]) 3)), ⟨(fun h => by cases h), (fun h => absurd h (by decide))⟩, hb [1], (fun a e => by cases e; exact Nat.le_refl _)⟩
  have e4 : (kind == 4) = false := beq_eq_false_iff_ne.2 h4
  have HS : hasS kind = [] := by unfold hasS; rw [if_neg h1, if_neg h2, if_neg h3, if_neg h4]
  have H := Lib.hid HS
  clear HS h1 h2 h3 h4
  go_enter Tryd.func27, Tryd.ntmps27
  go_wp2
  go_ret
  unfold HasPost
  rw [H.out]
  exact ⟨none, rfl, SL.nil _ _ _, ⟨fun _ => rfl, fun _ => rfl⟩, Below.refl _ _, fun a e => by cases e⟩
def IdxPost (l : List Int) (v : Int) (w : World) (e : Ending) (w' : World) : Prop :=
  ∃ k : Int, e = .returned (.int .i64 k) ∧ (0 ≤ k ↔ v ∈ l) ∧ w' = w
set_option maxHeartbeats 4000000 in
theorem index_any (l : List Int) (v : Int) (hl : l.length ≤ 1073741824) (p : Option Addr) (cap : Nat) (w : World) (hS : SL .i64 w p l) :
    Calls Tryd.prog 77 #[.slice p l.length cap, .int .i64 v] w (IdxPost l v w) := by
  go_enter Tryd.func77, Tryd.ntmps77
  go_wp2
  go_loop [5, 8] (fun _ iv => ∃ k : Nat, k ≤ l.length ∧ iv = .int .i64 k ∧ Hid (∀ j : Nat, j < k → nth l j ≠ v)) (fun _ iv => l.length - (intOf iv).toNat)
  case atStart => exact ⟨0, by omega, rfl, Lib.hid (fun j hj => by omega)⟩
  case round =>
    obtain ⟨k, hk, rfl, HK⟩ := hrel
    by_cases hlt : k < l.length
    · obtain ⟨b, off, rfl, hc⟩ := hS.open hlt
      have hcx := hc k hlt
      have hcy := hcx
      rw [cell?_eq] at hcy
      have i1 : (k : Int) < (l.length : Int) := by omega
      clear hc
      by_cases he : v = nth l k
      · have h1 : (v == nth l k) = true := beq_iff_eq.2 he
        have HE := Lib.hid he
        clear he
        go_wp2
        go_ret
        exact ⟨k, rfl, ⟨fun _ => by rw [HE.out]; exact nth_mem hlt, fun _ => by omega⟩, rfl⟩
      · have h1 : (v == nth l k) = false := beq_eq_false_iff_ne.2 he
        have HE := Lib.hid he
        clear he
        go_wp2
        go_round
        case rel => exact ⟨k + 1, by omega, by go_num, Lib.hid (fun j hj => by
          by_cases e : j = k
          · subst e; exact fun e2 => HE.out e2.symm
          · exact HK.out j (by omega))⟩
        case measure => simp [intOf]; omega
    · have i1 : (l.length : Int) ≤ (k : Int) := by omega
      have HX : Hid (¬ v ∈ l) := Lib.hid (fun hm => by
        obtain ⟨j, hj, e⟩ := List.mem_iff_getElem.1 hm
        exact HK.out j (by omega) (by rw [nth_lt hj, e]))
      go_wp2
      go_ret
      exact ⟨-1, rfl, ⟨fun h => absurd h (by decide), fun h => absurd h HX.out⟩, rfl⟩
theorem contains_any (l : List Int) (v : Int) (hl : l.length ≤ 1073741824) (p : Option Addr) (cap : Nat) (w : World) (hS : SL .i64 w p l) :
    Calls Tryd.prog 29 #[.slice p l.length cap, .int .i64 v] w fun e w' => e = .returned (.bool (decide (v ∈ l))) ∧ w = w' := by
  have HI := Lib.hid (index_any l v hl p cap w hS)
  go_enter Tryd.func29, Tryd.ntmps29
  go_wp2_with (go_at_call 77; refine HI.out.mono ?_; rintro e w' ⟨k, rfl, hk, rfl⟩; have HK := Lib.hid hk; clear hk)
  go_ret
  exact ⟨by rw [show decide (v ∈ l) = decide (0 ≤ k) from decide_eq_decide.2 HK.out.symm]; rfl, rfl⟩
/-- The functions of a part. -/
def mayF (n : Nat) : FuncId := [48, 53, 58, 62, 66, 71].getD n 0
def zeroF (n : Nat) : FuncId := [49, 54, 59, 63, 67, 72].getD n 0
def putF (n : Nat) : FuncId := [50, 55, 60, 64, 68, 73].getD n 0
def readF (n : Nat) : FuncId := [52, 56, 61, 65, 69, 75].getD n 0
def ofV (n : Nat) : Array Value := #[.func (.func (mayF n)) #[] #[], .func (.func (zeroF n)) #[] #[], .func (.func (putF n)) #[] #[], .func (.func (readF n)) #[] #[]]
set_option maxHeartbeats 4000000 in
theorem of_any (n : Nat) (hn : n < 6) (w : World) : Calls Tryd.prog 28 #[.int .i64 n] w fun e w' => e = .returned (.agg (ofV n)) ∧ Below w.heap.size w w' := by
  match n, hn with
  | 0, _ =>
    go_enter Tryd.func28, Tryd.ntmps28
    go_wp2_with (first | (refine st_row (n := 4) rfl (ty := 70) rfl rfl rfl (by exact heap_alloc_at _ _ _ rfl) (by kernel_rfl) rfl rfl (by simp [Value.oneCell']) ?_; rw [setRow_alloc_at _ _ _ _ _ rfl]))
    exact end_row (n := 4) rfl rfl (by exact heap_alloc_at w _ _ rfl) Tryd.underlying70 rfl (by kernel_rfl) rfl rfl ⟨rfl, (Below.refl _ _).alloc (Nat.le_refl _) _⟩
  | 1, _ =>
    go_enter Tryd.func28, Tryd.ntmps28
    go_wp2_with (first | (refine st_row (n := 4) rfl (ty := 70) rfl rfl rfl (by exact heap_alloc_at _ _ _ rfl) (by kernel_rfl) rfl rfl (by simp [Value.oneCell']) ?_; rw [setRow_alloc_at _ _ _ _ _ rfl]))
    exact end_row (n := 4) rfl rfl (by exact heap_alloc_at w _ _ rfl) Tryd.underlying70 rfl (by kernel_rfl) rfl rfl ⟨rfl, (Below.refl _ _).alloc (Nat.le_refl _) _⟩
  | 2, _ =>
    go_enter Tryd.func28, Tryd.ntmps28
    go_wp2_with (first | (refine st_row (n := 4) rfl (ty := 70) rfl rfl rfl (by exact heap_alloc_at _ _ _ rfl) (by kernel_rfl) rfl rfl (by simp [Value.oneCell']) ?_; rw [setRow_alloc_at _ _ _ _ _ rfl]))
    exact end_row (n := 4) rfl rfl (by exact heap_alloc_at w _ _ rfl) Tryd.underlying70 rfl (by kernel_rfl) rfl rfl ⟨rfl, (Below.refl _ _).alloc (Nat.le_refl _) _⟩
  | 3, _ =>
    go_enter Tryd.func28, Tryd.ntmps28
    go_wp2_with (first | (refine st_row (n := 4) rfl (ty := 70) rfl rfl rfl (by exact heap_alloc_at _ _ _ rfl) (by kernel_rfl) rfl rfl (by simp [Value.oneCell']) ?_; rw [setRow_alloc_at _ _ _ _ _ rfl]))
    exact end_row (n := 4) rfl rfl (by exact heap_alloc_at w _ _ rfl) Tryd.underlying70 rfl (by kernel_rfl) rfl rfl ⟨rfl, (Below.refl _ _).alloc (Nat.le_refl _) _⟩
  | 4, _ =>
    go_enter Tryd.func28, Tryd.ntmps28
    go_wp2_with (first | (refine st_row (n := 4) rfl (ty := 70) rfl rfl rfl (by exact heap_alloc_at _ _ _ rfl) (by kernel_rfl) rfl rfl (by simp [Value.oneCell']) ?_; rw [setRow_alloc_at _ _ _ _ _ rfl]))
    exact end_row (n := 4) rfl rfl (by exact heap_alloc_at w _ _ rfl) Tryd.underlying70 rfl (by kernel_rfl) rfl rfl ⟨rfl, (Below.refl _ _).alloc (Nat.le_refl _) _⟩
  | 5, _ =>
    go_enter Tryd.func28, Tryd.ntmps28
    go_wp2_with (first | (refine st_row (n := 4) rfl (ty := 70) rfl rfl rfl (by exact heap_alloc_at _ _ _ rfl) (by kernel_rfl) rfl rfl (by simp [Value.oneCell']) ?_; rw [setRow_alloc_at _ _ _ _ _ rfl]))
    exact end_row (n := 4) rfl rfl (by exact heap_alloc_at w _ _ rfl) Tryd.underlying70 rfl (by kernel_rfl) rfl rfl ⟨rfl, (Below.refl _ _).alloc (Nat.le_refl _) _⟩
theorem may_enter (n : Nat) (hn : n < 6) : ∀ args wx, (callFunc (mayF n) args).run Tryd.prog wx = .ok (.enter (mayF n) args) wx := by
  match n, hn with
  | 0, _ => exact fun args wx => by kernel_rfl
  | 1, _ => exact fun args wx => by kernel_rfl
  | 2, _ => exact fun args wx => by kernel_rfl
  | 3, _ => exact fun args wx => by kernel_rfl
  | 4, _ => exact fun args wx => by kernel_rfl
  | 5, _ => exact fun args wx => by kernel_rfl
theorem zero_enter (n : Nat) (hn : n < 6) : ∀ args wx, (callFunc (zeroF n) args).run Tryd.prog wx = .ok (.enter (zeroF n) args) wx := by
  match n, hn with
  | 0, _ => exact fun args wx => by kernel_rfl
  | 1, _ => exact fun args wx => by kernel_rfl
  | 2, _ => exact fun args wx => by kernel_rfl
  | 3, _ => exact fun args wx => by kernel_rfl
  | 4, _ => exact fun args wx => by kernel_rfl
  | 5, _ => exact fun args wx => by kernel_rfl
theorem put_enter (n : Nat) (hn : n < 6) : ∀ args wx, (callFunc (putF n) args).run Tryd.prog wx = .ok (.enter (putF n) args) wx := by
  match n, hn with
  | 0, _ => exact fun args wx => by kernel_rfl
  | 1, _ => exact fun args wx => by kernel_rfl
  | 2, _ => exact fun args wx => by kernel_rfl
  | 3, _ => exact fun args wx => by kernel_rfl
  | 4, _ => exact fun args wx => by kernel_rfl
  | 5, _ => exact fun args wx => by kernel_rfl
theorem read_enter (n : Nat) (hn : n < 6) : ∀ args wx, (callFunc (readF n) args).run Tryd.prog wx = .ok (.enter (readF n) args) wx := by
  match n, hn with
  | 0, _ => exact fun args wx => by kernel_rfl
  | 1, _ => exact fun args wx => by kernel_rfl
  | 2, _ => exact fun args wx => by kernel_rfl
  | 3, _ => exact fun args wx => by kernel_rfl
  | 4, _ => exact fun args wx => by kernel_rfl
  | 5, _ => exact fun args wx => by kernel_rfl
end Go.Proofs.YtjieiijbgbkikaaDoor
end
section
/- '==' of arrays of numbers. No program is used here. -/
namespace Go.Proofs.YtjieiijbgbkikaaDoor
open Go Go.RowKit
section
variable {P : Program} (w : World)
theorem all_nth_eq {n : Nat} (a b : List Int) (ha : a.length = n) (hb : b.length = n) : (List.range' 0 n 1).all (fun i => nth a i == nth b i) = (a == b) := by
  rw [Bool.eq_iff_iff, List.all_eq_true, beq_iff_eq]
  constructor
  · intro h
    refine ext_nth (by omega) fun i hi => ?_
    have := h i (by rw [List.mem_range'_1]; omega)
    exact beq_iff_eq.1 this
  · rintro rfl i _
    exact beq_iff_eq.2 rfl
theorem run_equalIn_ints (d : Nat) {t e : TypeId} {n : Nat} {k : IntKind} (ht : P.underlying t = some (.array n e)) (he : P.underlying e = some (.int k)) (hs : (P.info? e).map (·.size) = some 1)
    (a b : List Int) (ha : a.length = n) (hb : b.length = n) :
    (Op.equalIn (d + 2) t (.agg (ints k a)) (.agg (ints k b))).run P w = .ok (a == b) w := by
  have hsz : ∀ w, (sizeOf e).run P w = .ok 1 w := fun w => by
    cases hq : P.info? e with
    | none => simp [hq] at hs
    | some q =>
      have hs' : q.size = 1 := by simpa [hq] using hs
      simp [sizeOf, typeInfo, hq, hs']
  rw [← all_nth_eq a b ha hb, Op.equalIn]
  simp only [Sem.run_bind, run_underlying ht, Result.andThen_ok, hsz, Std.Legacy.Range.forIn_eq_forIn_range', Std.Legacy.Range.size, Nat.sub_zero, Nat.add_sub_cancel, Nat.div_one]
  have hl : ∀ i ∈ List.range' 0 n 1, i < n := fun i hi => by simpa using (List.mem_range'_1.1 hi).2
  generalize List.range' 0 n 1 = l at hl ⊢
  induction l with
  | nil => simp
  | cons i l ih =>
    have hi : i < n := hl i (by simp)
    have px : (part e (ints k a) (i * 1)).run P w = .ok (.int k (nth a i)) w := by
      simp [part, isAgg, run_underlying he, get_ints_lt k a i (by omega)]
    have py : (part e (ints k b) (i * 1)).run P w = .ok (.int k (nth b i)) w := by
      simp [part, isAgg, run_underlying he, get_ints_lt k b i (by omega)]
    have pe : (Op.equalIn (d + 1) e (.int k (nth a i)) (.int k (nth b i))).run P w = .ok (nth a i == nth b i) w := run_equalIn_int w d e k k _ _ he
    simp only [List.forIn_cons, Sem.run_bind, px, py, pe, Result.andThen_ok, List.all_cons]
    cases hb' : (nth a i == nth b i)
    · simp
    · simp only [Bool.not_true, Bool.false_eq_true, if_false, Sem.run_pure, Result.andThen_ok, Bool.true_and]
      exact ih fun j hj => hl j (by simp [hj])
theorem run_eql_ints {t e : TypeId} {n : Nat} {k : IntKind} (ht : P.underlying t = some (.array n e)) (he : P.underlying e = some (.int k)) (hs : (P.info? e).map (·.size) = some 1)
    (a b : List Int) (ha : a.length = n) (hb : b.length = n) : (binOp .eql t (.agg (ints k a)) (.agg (ints k b))).run P w = .ok (.bool (a == b)) w := by
  rw [run_eql_struct, run_equalIn_ints w 9998 ht he hs a b ha hb]; rfl
theorem run_neq_ints {t e : TypeId} {n : Nat} {k : IntKind} (ht : P.underlying t = some (.array n e)) (he : P.underlying e = some (.int k)) (hs : (P.info? e).map (·.size) = some 1)
    (a b : List Int) (ha : a.length = n) (hb : b.length = n) : (binOp .neq t (.agg (ints k a)) (.agg (ints k b))).run P w = .ok (.bool (!(a == b))) w := by
  rw [run_neq_struct, run_equalIn_ints w 9998 ht he hs a b ha hb]; rfl
end
end Go.Proofs.YtjieiijbgbkikaaDoor
end
