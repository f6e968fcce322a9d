/- Lemmas of a proof over the given program, joined by wip/join.py: KRead KReadB KCp KPkRead KEndT. -/
import Derived.Test.YtjieiijbgbkikaaDoorJ01
import Derived.Test.YtjieiijbgbkikaaDoorJ02
import Derived.Test.YtjieiijbgbkikaaDoorJ03
import Derived.Laws.BitsAllLaws
import Derived.Laws.BitsLemmas
import Derived.Laws.CopyRow
import Derived.Laws.CopyOwn
import Derived.Laws.Rows
set_option linter.unusedSimpArgs false
set_option linter.unusedVariables false
section
/- Package octet: the Reader. -/
namespace Go.Proofs.YtjieiijbgbkikaaDoor
open Go Go.RowKit
set_option maxRecDepth 100000
attribute [local go_sem] cell?_eq frozen?_eq heap_setCell_eq heap_setCell_ne

/-- A reader in block M: what is left, its error. -/
def Rd (U M : Nat) (w : World) (l : List Int) (err : Int) : Prop :=
  ∃ p cap, w.heap[M]? = some (.cells #[.slice p l.length cap, .int .i64 err, .bool true] 120 (0, 0)) ∧ SL .u8 w p l ∧ l.length ≤ cap ∧ RowKit.Hid (∀ a, p = some a → l ≠ [] → a.block < U)
theorem Rd.lt {U M : Nat} {w : World} {l : List Int} {err : Int} (h : Rd U M w l err) : M < w.heap.size := by
  obtain ⟨p, cap, h1, _⟩ := h
  exact (Array.getElem?_eq_some_iff.1 h1).1
theorem SL.ne_rd {w : World} {p : Option Addr} {l : List Int} {M : Nat} {v : Value} {e : Int} {b : Bool} {T : TypeId} {fr : Nat × Nat} (h : SL .u8 w p l) (hM : w.heap[M]? = some (.cells #[v, .int .i64 e, .bool b] T fr)) (hv : ∀ x, v ≠ .int .u8 x) : ∀ a, p = some a → l ≠ [] → a.block ≠ M := by
  rintro a rfl hl rfl
  rcases h with h | ⟨b', off, e', hc⟩
  · exact hl h
  · cases e'
    have h1 := hc 0 (List.length_pos_iff.2 hl)
    rw [cell_of_row w _ _ _ T fr hM] at h1
    match off, h1 with
    | 0, h1 => simp at h1; exact hv _ h1
    | 1, h1 => simp at h1
    | 2, h1 => simp at h1
    | n + 3, h1 => simp at h1
/-- The reader moved on: another slice, another error. -/
theorem Rd.kep {U M : Nat} {w w' : World} {l : List Int} {err : Int} {S : Nat → Prop} (h : Rd U M w l err) (hk : Kep S w w') (hM : ¬ S M) (hS : ∀ b, S b → ∀ cs T fr, w.heap[b]? = some (.cells cs T fr) → ∀ i : Nat, ∀ x, cs[i]? ≠ some (.int .u8 x)) : Rd U M w' l err := by
  obtain ⟨p, cap, h1, h2, h3, h4⟩ := h
  refine ⟨p, cap, hk.heap h1 hM, h2.kep hk (fun a ha hl hsa => ?_), h3, h4⟩
  subst ha
  rcases h2 with h2 | ⟨b', off, e', hc⟩
  · exact hl h2
  · cases e'
    have h5 := hc 0 (List.length_pos_iff.2 hl)
    unfold World.cell? at h5
    simp only at h5
    split at h5
    · rename_i cs T fr he
      exact hS b' hsa cs T fr he _ _ h5
    all_goals simp at h5
theorem Rd.below {U M : Nat} {w w' : World} {l : List Int} {err : Int} (h : Rd U M w l err) (hb : Below w.heap.size w w') : Rd U M w' l err := by
  obtain ⟨p, cap, h1, h2, h3, h4⟩ := h
  exact ⟨p, cap, below_blk hb h1, h2.below hb, h3, h4⟩
theorem dead_ok {U M : Nat} {w : World} {l : List Int} (h : Rd U M w l 0) :
    Calls Tryd.prog 81 #[.pointer (some ⟨M, 0, none⟩)] w fun e w' => e = .returned (.bool false) ∧ w = w' := by
  obtain ⟨p, cap, hM, _, _, _⟩ := h
  go_enter Tryd.func81, Tryd.ntmps81
  go_wp2
  go_ret
  exact ⟨rfl, rfl⟩
theorem dead_no {U M : Nat} {w : World} {l : List Int} {err : Int} (h : Rd U M w l err) (he : err ≠ 0) :
    Calls Tryd.prog 81 #[.pointer (some ⟨M, 0, none⟩)] w fun e w' => e = .returned (.bool true) ∧ w = w' := by
  obtain ⟨p, cap, hM, _, _, _⟩ := h
  have h1 : (err == 0) = false := beq_eq_false_iff_ne.2 he
  have h2 : (err != 0) = true := bne_iff_ne.2 he
  go_enter Tryd.func81, Tryd.ntmps81
  go_wp2
  go_ret
  exact ⟨rfl, rfl⟩
theorem fail_any {U M : Nat} {w : World} {l : List Int} {err : Int} (h : Rd U M w l err) (e' : Int) :
    Calls Tryd.prog 82 #[.pointer (some ⟨M, 0, none⟩), .int .i64 e'] w fun e w' => e = .returned (.tuple #[]) ∧ Rd U M w' l e' ∧ Kep (fun k => k = M) w w' := by
  obtain ⟨p, cap, hM, hS, hc, hU⟩ := h
  have hne := hS.ne_rd hM (fun x e => by cases e)
  have HNE := Lib.hid hne; clear hne
  go_enter Tryd.func82, Tryd.ntmps82
  go_wp2
  go_end0
  have hk := (Kep.refl (fun k => k = M) w).setCell (g := M) (o := 1) (.inl rfl) (.int .i64 e')
  exact ⟨rfl, ⟨p, cap, by rw [heap_setCell_eq, hM, putOf_some]; rfl, hS.kep hk (fun a ha hl e => HNE.out a ha hl e), hc, hU⟩, hk⟩
/-- Bytes as a number, the highest first. -/
def beVal (l : List Int) : Int := l.foldl (fun x c => x * 256 + c) 0
theorem beVal_nil : beVal [] = 0 := rfl
theorem beVal_snoc (l : List Int) (c : Int) : beVal (l ++ [c]) = beVal l * 256 + c := by simp [beVal]
theorem beVal_bd {l : List Int} (h : Bd 256 l) (d : Nat) : 0 ≤ beVal (l.take d) ∧ beVal (l.take d) < 256 ^ d := by
  induction d with
  | zero => rw [List.take_zero, beVal_nil]; omega
  | succ d ih =>
    by_cases hd : d < l.length
    · rw [take_snoc_nth' hd, beVal_snoc]
      have := h d
      rw [Int.pow_succ]; omega
    · rw [List.take_of_length_le (by omega)]
      rw [List.take_of_length_le (by omega)] at ih
      rw [Int.pow_succ]; omega
attribute [irreducible] beVal
/-- The next number: it, what is left, the error. -/
def rdNumC (n : Int) (t : List Int) : Int × List Int × Int :=
  if 8 < n then (0, n :: t, 4) else if (t.length : Int) < n then (0, n :: t, 5) else if 0 < n ∧ nth t 0 = 0 then (0, n :: t, 4) else (beVal (t.take n.toNat), t.drop n.toNat, 0)
def rdNum : List Int → Int × List Int × Int
  | [] => (0, [], 5)
  | n :: t => rdNumC n t
def rdNumber (l : List Int) (err : Int) : Int × List Int × Int := if err = 0 then rdNum l else (0, l, err)
theorem rdN_big {n : Int} {t : List Int} (h : 8 < n) : rdNumber (n :: t) 0 = (0, n :: t, 4) := by show (if (0 : Int) = 0 then rdNumC n t else _) = _; unfold rdNumC; rw [if_pos rfl, if_pos h]
theorem rdN_more {n : Int} {t : List Int} (h : ¬ 8 < n) (h1 : (t.length : Int) < n) : rdNumber (n :: t) 0 = (0, n :: t, 5) := by show (if (0 : Int) = 0 then rdNumC n t else _) = _; unfold rdNumC; rw [if_pos rfl, if_neg h, if_pos h1]
theorem rdN_zero {n : Int} {t : List Int} (h : ¬ 8 < n) (h1 : ¬ (t.length : Int) < n) (h2 : 0 < n ∧ nth t 0 = 0) : rdNumber (n :: t) 0 = (0, n :: t, 4) := by show (if (0 : Int) = 0 then rdNumC n t else _) = _; unfold rdNumC; rw [if_pos rfl, if_neg h, if_neg h1, if_pos h2]
theorem rdN_ok {n : Int} {t : List Int} (h : ¬ 8 < n) (h1 : ¬ (t.length : Int) < n) (h2 : ¬ (0 < n ∧ nth t 0 = 0)) : rdNumber (n :: t) 0 = (beVal (t.take n.toNat), t.drop n.toNat, 0) := by show (if (0 : Int) = 0 then rdNumC n t else _) = _; unfold rdNumC; rw [if_pos rfl, if_neg h, if_neg h1, if_neg h2]
def RdPost (U M : Nat) (w : World) (r : Int × List Int × Int) (e : Ending) (w' : World) : Prop := e = .returned (.int .u64 r.1) ∧ Rd U M w' r.2.1 r.2.2 ∧ Kep (fun k => k = M) w w'
theorem or_byte (x c : Int) (h0 : 0 ≤ x) (h1 : x ≤ 72057594037927935) (c0 : 0 ≤ c) (c1 : c < 256) : bits .or .u64 (x * 256) c = x * 256 + c := by
  rw [u64_or _ _ (by omega) (by omega) c0 (by omega), nat_join 8 _ _ (by omega) (by omega)]
  omega
set_option maxHeartbeats 4000000 in
theorem rnum_any {U M : Nat} {w : World} {l : List Int} {err : Int} (h : Rd U M w l err) (hB : Bd 256 l) (hl : l.length ≤ 1073741824) :
    Calls Tryd.prog 57 #[.pointer (some ⟨M, 0, none⟩)] w (RdPost U M w (rdNumber l err)) := by
  have hd := fun (he : err ≠ 0) => dead_no h he
  have hMlt := Lib.hid h.lt
  by_cases he : err = 0
  · subst he
    have HD := Lib.hid (dead_ok h)
    clear hd
    obtain ⟨p, cap, hM, hS, hc, hU⟩ := h
    have hne := hS.ne_rd hM (fun x e => by cases e)
    cases l with
    | nil =>
      have HF := Lib.hid (fail_any (M := M) ⟨p, cap, hM, hS, hc, hU⟩ 5)
      go_enter Tryd.func57, Tryd.ntmps57
      go_wp2_with (first | (go_at_call 81; refine HD.out.mono ?_; rintro e w' ⟨rfl, rfl⟩) | (go_at_call 82; refine HF.out.mono ?_; rintro e w' ⟨rfl, hR', hK'⟩))
      go_ret
      exact ⟨rfl, hR', hK'⟩
    | cons n t =>
      have hF := fun x => fail_any (M := M) ⟨p, cap, hM, hS, hc, hU⟩ x
      have n0 := (hB 0).1
      have n1 := (hB 0).2
      have hn0 : nth (n :: t) 0 = n := rfl
      rw [hn0] at n0 n1
      clear hn0
      rcases hS with hS | ⟨b, off, rfl, hcell⟩
      · simp at hS
      have hb : b ≠ M := hne _ rfl (by simp)
      have c0 : w.cell? ⟨b, off, none⟩ = some (.int .u8 n) := hcell 0 (by simp)
      have c0' := c0
      rw [cell?_eq] at c0'
      have hlen : (n :: t).length = t.length + 1 := rfl
      rw [hlen] at hM hc hcell hl
      have lz : ((t.length : Int) + 1 == 0) = false := beq_eq_false_iff_ne.2 (by omega)
      obtain ⟨N, rfl⟩ := Int.eq_ofNat_of_zero_le n0
      by_cases h8 : 8 < (N : Int)
      · have HF := Lib.hid (hF 4)
        clear hF hne
        go_enter Tryd.func57, Tryd.ntmps57
        go_wp2_with (first | (go_at_call 81; refine HD.out.mono ?_; rintro e w' ⟨rfl, rfl⟩) | (go_at_call 82; refine HF.out.mono ?_; rintro e w' ⟨rfl, hR', hK'⟩))
        go_ret
        unfold RdPost
        rw [rdN_big h8]
        exact ⟨rfl, hR', hK'⟩
      by_cases hlt : (t.length : Int) < (N : Int)
      · have HF := Lib.hid (hF 5)
        clear hF hne
        have g1 : (t.length : Int) + 1 < 1 + (N : Int) := by omega
        go_enter Tryd.func57, Tryd.ntmps57
        go_wp2_with (first | (go_at_call 81; refine HD.out.mono ?_; rintro e w' ⟨rfl, rfl⟩) | (go_at_call 82; refine HF.out.mono ?_; rintro e w' ⟨rfl, hR', hK'⟩))
        go_ret
        unfold RdPost
        rw [rdN_more (by omega) hlt]
        exact ⟨rfl, hR', hK'⟩
      have g1 : ¬ ((t.length : Int) + 1 < 1 + (N : Int)) := by omega
      by_cases hz : 0 < (N : Int) ∧ nth t 0 = 0
      · have HF := Lib.hid (hF 4)
        clear hF hne
        obtain ⟨hz0, hz1⟩ := hz
        have c1 : w.cell? ⟨b, off + 1, none⟩ = some (.int .u8 0) := by rw [hcell 1 (by omega)]; congr 2
        have c1' := c1
        rw [cell?_eq] at c1'
        have g2 : 0 < t.length := by omega
        go_enter Tryd.func57, Tryd.ntmps57
        go_wp2_with (first | (go_at_call 81; refine HD.out.mono ?_; rintro e w' ⟨rfl, rfl⟩) | (go_at_call 82; refine HF.out.mono ?_; rintro e w' ⟨rfl, hR', hK'⟩))
        go_ret
        unfold RdPost
        rw [rdN_zero (by omega) (by omega) ⟨hz0, hz1⟩]
        exact ⟨rfl, hR', hK'⟩
      · have HV := Lib.hid (rdN_ok (by omega) (by omega) hz)
        have hHZ := Lib.hid hz
        have hSl : SL .u8 w (some ⟨b, off, none⟩) ((N : Int) :: t) := .inr ⟨b, off, rfl, fun i hi => hcell i hi⟩
        have hll : t.length + 1 = ((N : Int) :: t).length := rfl
        have HLL := Lib.hid hll
        have hN8 : N ≤ 8 := by omega
        have g3 : 1 + N - 1 = N := by omega
        have hNt : N ≤ t.length := by omega
        have htB : Bd 256 t := by have := hB.drop (by decide) 1; exact this
        clear hll hF hcell hz hlen
        by_cases hN0 : 0 < (N : Int)
        · have c1 : w.cell? ⟨b, off + 1, none⟩ = some (.int .u8 (nth t 0)) := by
            rcases hSl with h | ⟨b', off', e, h⟩
            · simp at h
            · cases e; exact h 1 (by have := HLL.out; omega)
          have c1' := c1
          rw [cell?_eq] at c1'
          have z1 : (nth t 0 == 0) = false := beq_eq_false_iff_ne.2 (fun e => hHZ.out ⟨hN0, e⟩)
          have g2 : 0 < t.length := by omega
          go_enter Tryd.func57, Tryd.ntmps57
          go_wp2_with (first | (go_at_call 81; refine HD.out.mono ?_; rintro e w' ⟨rfl, rfl⟩) | (refine sl_ints (i := 1) (j := 1 + N) rfl rfl Tryd.underlying25 (by kernel_rfl) rfl HLL.out hSl hc (.inr rfl) (.inr (by exact congrArg some (congrArg (Value.int .i64) (by omega)))) (by omega) (by omega) ?_; intro p1 hS1 _))
          have hS1' : SL .u8 w p1 (t.take N) := by rw [g3] at hS1; exact hS1
          clear hS1
          go_loop [4, 6, 62] (fun xv _ iv => ∃ k : Nat, k ≤ N ∧ iv = .int .i64 k ∧ xv = .int .u64 (beVal (t.take k))) (fun _ _ iv => N - (intOf iv).toNat)
          case atStart => exact ⟨0, by omega, rfl, by rw [List.take_zero, beVal_nil]⟩
          case round =>
            obtain ⟨k, hk, rfl, rfl⟩ := hrel
            have hbd := beVal_bd htB k
            by_cases hkN : k < N
            · have x0 := hbd.1
              have x1 : beVal (t.take k) ≤ 72057594037927935 := by
                have h256 : (256 : Int) ^ k ≤ 256 ^ 7 := by
                  have : (256 : Nat) ^ k ≤ 256 ^ 7 := Nat.pow_le_pow_right (by decide) (by omega)
                  exact_mod_cast this
                have : (256 : Int) ^ 7 = 72057594037927936 := by decide
                omega
              have hkt : k < t.length := by omega
              have hsn := take_snoc_nth' hkt
              have hst : beVal (t.take (k + 1)) = beVal (t.take k) * 256 + nth t k := by rw [hsn, beVal_snoc]
              have y0 := (htB k).1
              have y1 := (htB k).2
              have hor := or_byte _ _ x0 x1 y0 y1
              have HST := Lib.hid hst
              obtain ⟨X, hX⟩ : ∃ X, X = beVal (t.take k) := ⟨_, rfl⟩
              rw [← hX] at x0 x1 hor HST ⊢
              clear hbd hsn hst hX
              have hkt2 : k < (t.take N).length := by rw [List.length_take]; omega
              obtain ⟨b1, o1, rfl, hc1⟩ := hS1'.open hkt2
              have hcx : w.cell? ⟨b1, o1 + k, none⟩ = some (.int .u8 (nth t k)) := by rw [hc1 k hkt2, nth_take hkN]
              have hcy := hcx
              rw [cell?_eq] at hcy
              have i1 : (k : Int) < (N : Int) := by omega
              clear hc1 hkt2
              go_wp2
              go_round
              case rel => exact ⟨k + 1, by omega, by go_num, by rw [HST.out]⟩
              case measure => simp [intOf]; omega
            · have Hk := Lib.hid (show k = N by omega)
              have i1 : (N : Int) ≤ (k : Int) := by omega
              have g5 : 1 + N ≤ t.length + 1 := by omega
              go_wp2_with (refine sl_ints (i := 1 + N) (j := t.length + 1) rfl rfl Tryd.underlying25 (by kernel_rfl) rfl HLL.out hSl hc (.inr (by exact congrArg some (congrArg (Value.int .i64) (by omega)))) (.inl ⟨rfl, rfl⟩) (by omega) (by omega) ?_; intro p2 hS2 hp2)
              go_ret
              have hk := (Kep.refl (fun k => k = M) w).setCell (g := M) (o := 0) (.inl rfl) (.slice p2 (t.length + 1 - (1 + N)) (cap - (1 + N)))
              have hdr : ((((N : Int) :: t).drop (1 + N)).take (t.length + 1 - (1 + N))) = t.drop N := by
                rw [show 1 + N = N + 1 by omega, List.drop_succ_cons]
                exact List.take_of_length_le (by rw [List.length_drop]; omega)
              rw [hdr] at hS2
              have hdl : (t.drop N).length = t.length + 1 - (1 + N) := by rw [List.length_drop]; omega
              unfold RdPost
              rw [HV.out, Int.toNat_natCast]
              refine ⟨by rw [← Hk.out]; rfl, ⟨p2, cap - (1 + N), ?_, hS2.kep hk (fun a ha hl e => ?_), by rw [hdl]; omega, Lib.hid (fun a ha hl => by obtain ⟨a', h1, h2⟩ := hp2 a ha; cases h1; rw [← h2]; exact hU.out _ rfl (by simp))⟩, hk⟩
              · rw [heap_setCell_eq, hM, putOf_some]; rw [hdl]; rfl
              · obtain ⟨a', h1, h2⟩ := hp2 a ha
                cases h1
                exact hb (h2.trans e)
        · go_enter Tryd.func57, Tryd.ntmps57
          go_wp2_with (first | (go_at_call 81; refine HD.out.mono ?_; rintro e w' ⟨rfl, rfl⟩) | (refine sl_ints (i := 1) (j := 1 + N) rfl rfl Tryd.underlying25 (by kernel_rfl) rfl HLL.out hSl hc (.inr rfl) (.inr (by exact congrArg some (congrArg (Value.int .i64) (by omega)))) (by omega) (by omega) ?_; intro p1 hS1 _))
          have hS1' : SL .u8 w p1 (t.take N) := by rw [g3] at hS1; exact hS1
          clear hS1
          go_loop [4, 6, 62] (fun xv _ iv => ∃ k : Nat, k ≤ N ∧ iv = .int .i64 k ∧ xv = .int .u64 (beVal (t.take k))) (fun _ _ iv => N - (intOf iv).toNat)
          case atStart => exact ⟨0, by omega, rfl, by rw [List.take_zero, beVal_nil]⟩
          case round =>
            obtain ⟨k, hk, rfl, rfl⟩ := hrel
            have hbd := beVal_bd htB k
            by_cases hkN : k < N
            · have x0 := hbd.1
              have x1 : beVal (t.take k) ≤ 72057594037927935 := by
                have h256 : (256 : Int) ^ k ≤ 256 ^ 7 := by
                  have : (256 : Nat) ^ k ≤ 256 ^ 7 := Nat.pow_le_pow_right (by decide) (by omega)
                  exact_mod_cast this
                have : (256 : Int) ^ 7 = 72057594037927936 := by decide
                omega
              have hkt : k < t.length := by omega
              have hsn := take_snoc_nth' hkt
              have hst : beVal (t.take (k + 1)) = beVal (t.take k) * 256 + nth t k := by rw [hsn, beVal_snoc]
              have y0 := (htB k).1
              have y1 := (htB k).2
              have hor := or_byte _ _ x0 x1 y0 y1
              have HST := Lib.hid hst
              obtain ⟨X, hX⟩ : ∃ X, X = beVal (t.take k) := ⟨_, rfl⟩
              rw [← hX] at x0 x1 hor HST ⊢
              clear hbd hsn hst hX
              have hkt2 : k < (t.take N).length := by rw [List.length_take]; omega
              obtain ⟨b1, o1, rfl, hc1⟩ := hS1'.open hkt2
              have hcx : w.cell? ⟨b1, o1 + k, none⟩ = some (.int .u8 (nth t k)) := by rw [hc1 k hkt2, nth_take hkN]
              have hcy := hcx
              rw [cell?_eq] at hcy
              have i1 : (k : Int) < (N : Int) := by omega
              clear hc1 hkt2
              go_wp2
              go_round
              case rel => exact ⟨k + 1, by omega, by go_num, by rw [HST.out]⟩
              case measure => simp [intOf]; omega
            · have Hk := Lib.hid (show k = N by omega)
              have i1 : (N : Int) ≤ (k : Int) := by omega
              have g5 : 1 + N ≤ t.length + 1 := by omega
              go_wp2_with (refine sl_ints (i := 1 + N) (j := t.length + 1) rfl rfl Tryd.underlying25 (by kernel_rfl) rfl HLL.out hSl hc (.inr (by exact congrArg some (congrArg (Value.int .i64) (by omega)))) (.inl ⟨rfl, rfl⟩) (by omega) (by omega) ?_; intro p2 hS2 hp2)
              go_ret
              have hk := (Kep.refl (fun k => k = M) w).setCell (g := M) (o := 0) (.inl rfl) (.slice p2 (t.length + 1 - (1 + N)) (cap - (1 + N)))
              have hdr : ((((N : Int) :: t).drop (1 + N)).take (t.length + 1 - (1 + N))) = t.drop N := by
                rw [show 1 + N = N + 1 by omega, List.drop_succ_cons]
                exact List.take_of_length_le (by rw [List.length_drop]; omega)
              rw [hdr] at hS2
              have hdl : (t.drop N).length = t.length + 1 - (1 + N) := by rw [List.length_drop]; omega
              unfold RdPost
              rw [HV.out, Int.toNat_natCast]
              refine ⟨by rw [← Hk.out]; rfl, ⟨p2, cap - (1 + N), ?_, hS2.kep hk (fun a ha hl e => ?_), by rw [hdl]; omega, Lib.hid (fun a ha hl => by obtain ⟨a', h1, h2⟩ := hp2 a ha; cases h1; rw [← h2]; exact hU.out _ rfl (by simp))⟩, hk⟩
              · rw [heap_setCell_eq, hM, putOf_some]; rw [hdl]; rfl
              · obtain ⟨a', h1, h2⟩ := hp2 a ha
                cases h1
                exact hb (h2.trans e)
  · have HD := Lib.hid (hd he)
    have H := Lib.hid h
    have HE := Lib.hid he
    clear hd he h
    go_enter Tryd.func57, Tryd.ntmps57
    go_wp2_with (go_at_call 81; refine HD.out.mono ?_; rintro e w' ⟨rfl, rfl⟩)
    go_ret
    unfold RdPost rdNumber
    rw [if_neg HE.out]
    exact ⟨rfl, H.out, Kep.refl _ _⟩
end Go.Proofs.YtjieiijbgbkikaaDoor
end
section
/- Package octet: the Reader, the other methods. -/
namespace Go.Proofs.YtjieiijbgbkikaaDoor
open Go Go.RowKit
set_option maxRecDepth 100000
attribute [local go_sem] cell?_eq frozen?_eq heap_setCell_eq heap_setCell_ne

theorem rdNumber_ok {l : List Int} (hB : Bd 256 l) (err : Int) : u64lim (rdNumber l err).1 ∧ Bd 256 (rdNumber l err).2.1 ∧ (rdNumber l err).2.1.length ≤ l.length := by
  unfold rdNumber
  have z : u64lim 0 := ⟨by omega, by omega⟩
  split
  · cases l with
    | nil => exact ⟨z, hB, Nat.le_refl _⟩
    | cons n t =>
      show u64lim (rdNumC n t).1 ∧ Bd 256 (rdNumC n t).2.1 ∧ (rdNumC n t).2.1.length ≤ _
      have htB : Bd 256 t := by have := hB.drop (by decide) 1; exact this
      unfold rdNumC
      split
      · exact ⟨z, hB, Nat.le_refl _⟩
      split
      · exact ⟨z, hB, Nat.le_refl _⟩
      split
      · exact ⟨z, hB, Nat.le_refl _⟩
      · rename_i h8 h1 h2
        refine ⟨?_, htB.drop (by decide) _, by simp; omega⟩
        have h3 := beVal_bd htB n.toNat
        have h256 : (256 : Int) ^ n.toNat ≤ 256 ^ 8 := by
          have : (256 : Nat) ^ n.toNat ≤ 256 ^ 8 := Nat.pow_le_pow_right (by decide) (by omega)
          exact_mod_cast this
        have : (256 : Int) ^ 8 = 18446744073709551616 := by decide
        exact ⟨h3.1, by show beVal (t.take n.toNat) < _; omega⟩
  · exact ⟨z, hB, Nat.le_refl _⟩
/-- The next number, at most so much. -/
def rdUpto (l : List Int) (err most : Int) : Int × List Int × Int :=
  if (rdNumber l err).2.2 ≠ 0 then (0, (rdNumber l err).2.1, (rdNumber l err).2.2) else if most < (rdNumber l err).1 then (0, (rdNumber l err).2.1, 3) else rdNumber l err
theorem rdUpto_ok {l : List Int} (hB : Bd 256 l) (err most : Int) : u64lim (rdUpto l err most).1 ∧ Bd 256 (rdUpto l err most).2.1 ∧ (rdUpto l err most).2.1.length ≤ l.length := by
  have h := rdNumber_ok hB err
  have z : u64lim 0 := ⟨by omega, by omega⟩
  unfold rdUpto
  split
  · exact ⟨z, h.2⟩
  split
  · exact ⟨z, h.2⟩
  · exact h
set_option maxHeartbeats 4000000 in
theorem rupto_any {U M : Nat} {w : World} {l : List Int} {err : Int} (h : Rd U M w l err) (hB : Bd 256 l) (hl : l.length ≤ 1073741824) (most : Int) :
    Calls Tryd.prog 34 #[.pointer (some ⟨M, 0, none⟩), .int .u64 most] w (RdPost U M w (rdUpto l err most)) := by
  have HN := Lib.hid (rnum_any h hB hl)
  clear h
  obtain ⟨r, hr⟩ : ∃ r, r = rdNumber l err := ⟨_, rfl⟩
  have hu : rdUpto l err most = if r.2.2 ≠ 0 then (0, r.2.1, r.2.2) else if most < r.1 then (0, r.2.1, 3) else r := by rw [hr]; rfl
  rw [← hr] at HN
  clear hr
  obtain ⟨x, l1, e1⟩ := r
  by_cases he : e1 = 0
  · subst he
    by_cases hx : most < x
    · have HU : Hid (rdUpto l err most = (0, l1, 3)) := Lib.hid (by rw [hu]; simp [hx])
      clear hu
      go_enter Tryd.func34, Tryd.ntmps34
      go_wp2_with (first | (go_at_call 57; refine HN.out.mono ?_; rintro e w1 ⟨rfl, hR1, hK1⟩) | (go_at_call 81; refine (dead_ok hR1).mono ?_; rintro e w' ⟨rfl, rfl⟩) | (go_at_call 82; refine (fail_any hR1 3).mono ?_; rintro e w2 ⟨rfl, hR2, hK2⟩))
      go_ret
      rw [HU.out]
      exact ⟨rfl, hR2, hK1.trans hK2⟩
    · have HU : Hid (rdUpto l err most = (x, l1, 0)) := Lib.hid (by rw [hu]; simp [hx])
      clear hu
      go_enter Tryd.func34, Tryd.ntmps34
      go_wp2_with (first | (go_at_call 57; refine HN.out.mono ?_; rintro e w1 ⟨rfl, hR1, hK1⟩) | (go_at_call 81; refine (dead_ok hR1).mono ?_; rintro e w' ⟨rfl, rfl⟩))
      go_ret
      rw [HU.out]
      exact ⟨rfl, hR1, hK1⟩
  · have HU : Hid (rdUpto l err most = (0, l1, e1)) := Lib.hid (by rw [hu]; simp [he])
    have HE := Lib.hid he
    clear hu he
    go_enter Tryd.func34, Tryd.ntmps34
    go_wp2_with (first | (go_at_call 57; refine HN.out.mono ?_; rintro e w1 ⟨rfl, hR1, hK1⟩) | (go_at_call 81; refine (dead_no hR1 HE.out).mono ?_; rintro e w' ⟨rfl, rfl⟩))
    go_ret
    rw [HU.out]
    exact ⟨rfl, hR1, hK1⟩
/-- The next so many bytes. -/
def rdFixed (l : List Int) (err : Int) (N : Nat) : List Int × List Int × Int :=
  if err ≠ 0 then ([], l, err) else if l.length < N then ([], l, 5) else (l.take N, l.drop N, 0)
def RdPostB (U M : Nat) (w : World) (r : List Int × List Int × Int) (e : Ending) (w' : World) : Prop :=
  ∃ v, e = .returned v ∧ Own w.heap.size w' 5 .u8 v r.1 ∧ Rd U M w' r.2.1 r.2.2 ∧ Kep (fun k => k = M) w w'
set_option maxHeartbeats 8000000 in
theorem rfixed_any {U M : Nat} {w : World} {l : List Int} {err : Int} (h : Rd U M w l err) (hl : l.length ≤ 1073741824) (N : Nat) (hN : N ≤ 1073741824) :
    Calls Tryd.prog 70 #[.pointer (some ⟨M, 0, none⟩), .int .i64 N] w (RdPostB U M w (rdFixed l err N)) := by
  have hMlt := Lib.hid h.lt
  by_cases he : err = 0
  · subst he
    have HD := Lib.hid (dead_ok h)
    by_cases hlt : l.length < N
    · have HU : Hid (rdFixed l 0 N = ([], l, 5)) := Lib.hid (by unfold rdFixed; rw [if_neg (by simp), if_pos hlt])
      have HF := Lib.hid (fail_any h 5)
      obtain ⟨p, cap, hM, hS, hc, hU⟩ := h
      have g1 : (l.length : Int) < (N : Int) := by omega
      have g2 : 0 < (N : Int) := by omega
      go_enter Tryd.func70, Tryd.ntmps70
      go_wp2_with (first | (go_at_call 81; refine HD.out.mono ?_; rintro e w' ⟨rfl, rfl⟩) | (go_at_call 82; refine HF.out.mono ?_; rintro e w2 ⟨rfl, hR2, hK2⟩))
      go_ret
      rw [HU.out]
      exact ⟨_, rfl, Own.nil _ _ _ _, hR2, hK2⟩
    · have HU : Hid (rdFixed l 0 N = (l.take N, l.drop N, 0)) := Lib.hid (by unfold rdFixed; rw [if_neg (by simp), if_neg hlt])
      obtain ⟨p, cap, hM, hS, hc, hU⟩ := h
      have HNE := Lib.hid (hS.ne_rd hM (fun x e => by cases e))
      have g1 : ¬ ((l.length : Int) < (N : Int)) := by omega
      have g3 : N ≤ l.length := by omega
      rcases Nat.eq_zero_or_pos N with h0 | h0
      · subst h0
        have hMa : (w.alloc (.cells #[] 5)).heap[M]? = _ := (heap_alloc_past w (.cells #[] 5) M hMlt.out).trans hM
        go_enter Tryd.func70, Tryd.ntmps70
        go_wp2_with (first | (go_at_call 81; refine HD.out.mono ?_; rintro e w' ⟨rfl, rfl⟩) | (refine sl_ints (i := 0) (j := 0) rfl (lo := none) rfl Tryd.underlying25 (by kernel_rfl) rfl rfl (hS.alloc _) hc (.inl ⟨rfl, rfl⟩) (.inr rfl) (by omega) g3 ?_; intro p1 hS1 _) | (refine ap_ints rfl rfl Tryd.underlying25 (E := 5) (k := .u8) (by' := 1) (by kernel_rfl) (by decide) (base := w.heap.size) (v := .slice (some ⟨w.heap.size, 0, none⟩) 0 0) (l := []) (m := (l.drop 0).take (0 - 0)) rfl (by exact Own.fresh w _ _ (Nat.le_refl _)) rfl (by rw [List.length_take, List.length_drop]; omega) (by exact hS1) (by simp <;> omega) (by simp) ?_; intro v2 w2 hO2 hg2 _; rw [List.nil_append, List.drop_zero, Nat.sub_zero] at hO2; have hB2 : Below w.heap.size w w2 := Own.grown (Own.fresh w 5 .u8 (Nat.le_refl _)) ((Below.refl _ _).alloc (Nat.le_refl _) _) (by simp) hg2; have hM2 := below_blk hB2 hM; have hS2 := hS.below hB2; have hl2 : (l.take 0).length = 0 := (by rw [List.length_take]; omega)) | (refine sl_ints (i := 0) (j := l.length) rfl (hi := none) rfl Tryd.underlying25 (by kernel_rfl) rfl rfl hS2 hc (.inr rfl) (.inl ⟨rfl, rfl⟩) g3 (Nat.le_refl _) ?_; intro p3 hS3 hp3))
        go_ret
        rw [HU.out]
        have hS4 : SL .u8 w2 p3 (l.drop 0) := by have h4 := hS3; rwa [List.take_of_length_le (by rw [List.length_drop]; omega)] at h4
        have hk := (Kep.refl (fun k => k = M) w2).setCell (g := M) (o := 0) (.inl rfl) (.slice p3 (l.length - 0) (cap - 0))
        refine ⟨_, rfl, hO2.kep hk (fun g hg e => hO2.ne hM2 (by decide) (by rw [hg, e])), ⟨p3, cap - 0, ?_, hS4.kep hk (fun a ha hl e => ?_), by rw [List.length_drop]; omega, Lib.hid (fun a ha hl => by obtain ⟨a', h1, h2⟩ := hp3 a ha; rw [← h2]; exact hU.out a' h1 (fun e0 => hl (by rw [e0]; simp)))⟩, (Kep.of_below hB2 (fun k hk _ => hk)).trans hk⟩
        · rw [heap_setCell_eq, hM2, putOf_some, List.length_drop]; rfl
        · obtain ⟨a', h1, h2⟩ := hp3 a ha
          exact HNE.out a' h1 (fun e0 => hl (by rw [e0]; simp)) (h2.trans e)
      · have g2 : 0 < (N : Int) := by omega
        have hMa : (w.alloc (.cells #[] 5)).heap[M]? = _ := (heap_alloc_past w (.cells #[] 5) M hMlt.out).trans hM
        go_enter Tryd.func70, Tryd.ntmps70
        go_wp2_with (first | (go_at_call 81; refine HD.out.mono ?_; rintro e w' ⟨rfl, rfl⟩) | (refine sl_ints (i := 0) (j := N) rfl (lo := none) rfl Tryd.underlying25 (by kernel_rfl) rfl rfl (hS.alloc _) hc (.inl ⟨rfl, rfl⟩) (.inr rfl) (by omega) g3 ?_; intro p1 hS1 _) | (refine ap_ints rfl rfl Tryd.underlying25 (E := 5) (k := .u8) (by' := 1) (by kernel_rfl) (by decide) (base := w.heap.size) (v := .slice (some ⟨w.heap.size, 0, none⟩) 0 0) (l := []) (m := (l.drop 0).take (N - 0)) rfl (by exact Own.fresh w _ _ (Nat.le_refl _)) rfl (by rw [List.length_take, List.length_drop]; omega) (by exact hS1) (by simp <;> omega) (by simp) ?_; intro v2 w2 hO2 hg2 _; rw [List.nil_append, List.drop_zero, Nat.sub_zero] at hO2; have hB2 : Below w.heap.size w w2 := Own.grown (Own.fresh w 5 .u8 (Nat.le_refl _)) ((Below.refl _ _).alloc (Nat.le_refl _) _) (by simp) hg2; have hM2 := below_blk hB2 hM; have hS2 := hS.below hB2; have hl2 : (l.take N).length = N := (by rw [List.length_take]; omega)) | (refine sl_ints (i := N) (j := l.length) rfl (hi := none) rfl Tryd.underlying25 (by kernel_rfl) rfl rfl hS2 hc (.inr rfl) (.inl ⟨rfl, rfl⟩) g3 (Nat.le_refl _) ?_; intro p3 hS3 hp3))
        go_ret
        rw [HU.out]
        have hS4 : SL .u8 w2 p3 (l.drop N) := by have h4 := hS3; rwa [List.take_of_length_le (by rw [List.length_drop]; omega)] at h4
        have hk := (Kep.refl (fun k => k = M) w2).setCell (g := M) (o := 0) (.inl rfl) (.slice p3 (l.length - N) (cap - N))
        refine ⟨_, rfl, hO2.kep hk (fun g hg e => hO2.ne hM2 (by decide) (by rw [hg, e])), ⟨p3, cap - N, ?_, hS4.kep hk (fun a ha hl e => ?_), by rw [List.length_drop]; omega, Lib.hid (fun a ha hl => by obtain ⟨a', h1, h2⟩ := hp3 a ha; rw [← h2]; exact hU.out a' h1 (fun e0 => hl (by rw [e0]; simp)))⟩, (Kep.of_below hB2 (fun k hk _ => hk)).trans hk⟩
        · rw [heap_setCell_eq, hM2, putOf_some, List.length_drop]; rfl
        · obtain ⟨a', h1, h2⟩ := hp3 a ha
          exact HNE.out a' h1 (fun e0 => hl (by rw [e0]; simp)) (h2.trans e)
  · have HD := Lib.hid (dead_no h he)
    have HU : Hid (rdFixed l err N = ([], l, err)) := Lib.hid (by unfold rdFixed; rw [if_pos he])
    have H := Lib.hid h
    clear he h
    go_enter Tryd.func70, Tryd.ntmps70
    go_wp2_with (first | (go_at_call 81; refine HD.out.mono ?_; rintro e w' ⟨rfl, rfl⟩))
    go_ret
    rw [HU.out]
    exact ⟨_, rfl, Own.nil _ _ _ _, H.out, Kep.refl _ _⟩
/-- The next block. -/
def rdBlock (l : List Int) (err : Int) : List Int × List Int × Int :=
  if (rdNumber l err).2.2 ≠ 0 then ([], (rdNumber l err).2.1, (rdNumber l err).2.2) else if 1048576 < (rdNumber l err).1 then ([], (rdNumber l err).2.1, 3) else rdFixed (rdNumber l err).2.1 0 (rdNumber l err).1.toNat
set_option maxHeartbeats 4000000 in
theorem rblock_any {U M : Nat} {w : World} {l : List Int} {err : Int} (h : Rd U M w l err) (hB : Bd 256 l) (hl : l.length ≤ 1073741824) :
    Calls Tryd.prog 76 #[.pointer (some ⟨M, 0, none⟩)] w (RdPostB U M w (rdBlock l err)) := by
  have HN := Lib.hid (rnum_any h hB hl)
  have hok := rdNumber_ok hB err
  clear h
  obtain ⟨r, hr⟩ : ∃ r, r = rdNumber l err := ⟨_, rfl⟩
  have hu : rdBlock l err = if r.2.2 ≠ 0 then ([], r.2.1, r.2.2) else if 1048576 < r.1 then ([], r.2.1, 3) else rdFixed r.2.1 0 r.1.toNat := by rw [hr]; rfl
  rw [← hr] at HN hok
  clear hr
  obtain ⟨x, l1, e1⟩ := r
  obtain ⟨⟨hx0, _⟩, hl1B, hl1⟩ := hok
  dsimp only at hx0 hl1B hl1
  by_cases he : e1 = 0
  · subst he
    by_cases hx : 1048576 < x
    · have HU : Hid (rdBlock l err = ([], l1, 3)) := Lib.hid (by rw [hu]; simp [hx])
      clear hu
      go_enter Tryd.func76, Tryd.ntmps76
      go_wp2_with (first | (go_at_call 57; refine HN.out.mono ?_; rintro e w1 ⟨rfl, hR1, hK1⟩) | (go_at_call 81; refine (dead_ok hR1).mono ?_; rintro e w' ⟨rfl, rfl⟩) | (go_at_call 82; refine (fail_any hR1 3).mono ?_; rintro e w2 ⟨rfl, hR2, hK2⟩))
      go_ret
      rw [HU.out]
      exact ⟨_, rfl, Own.nil _ _ _ _, hR2, hK1.trans hK2⟩
    · have HU : Hid (rdBlock l err = rdFixed l1 0 x.toNat) := Lib.hid (by rw [hu]; simp [hx])
      have i1 : IntKind.i64.wrap x = x := IntWalk.i64_in _ (by omega)
      have HL1 : Hid (l1.length ≤ 1073741824) := Lib.hid (by omega)
      have HX1 : Hid (x.toNat ≤ 1073741824) := Lib.hid (by omega)
      have HX2 : Hid (Value.int .i64 x = .int .i64 (x.toNat : Int)) := Lib.hid (by rw [Int.toNat_of_nonneg hx0])
      clear hu
      go_enter Tryd.func76, Tryd.ntmps76
      go_wp2_with (first | (go_at_call 57; refine HN.out.mono ?_; rintro e w1 ⟨rfl, hR1, hK1⟩) | (go_at_call 81; refine (dead_ok hR1).mono ?_; rintro e w' ⟨rfl, rfl⟩) | (go_at_call 70; rw [HX2.out]; refine (rfixed_any (l := l1) (err := 0) hR1 HL1.out x.toNat HX1.out).mono ?_; rintro e w2 ⟨v2, rfl, hO2, hR2, hK2⟩))
      go_ret
      rw [HU.out]
      exact ⟨_, rfl, hO2.mono hK1.size, hR2, hK1.trans hK2⟩
  · have HU : Hid (rdBlock l err = ([], l1, e1)) := Lib.hid (by rw [hu]; simp [he])
    have HE := Lib.hid he
    clear hu he
    go_enter Tryd.func76, Tryd.ntmps76
    go_wp2_with (first | (go_at_call 57; refine HN.out.mono ?_; rintro e w1 ⟨rfl, hR1, hK1⟩) | (go_at_call 81; refine (dead_no hR1 HE.out).mono ?_; rintro e w' ⟨rfl, rfl⟩))
    go_ret
    rw [HU.out]
    exact ⟨_, rfl, Own.nil _ _ _ _, hR1, hK1⟩
theorem rerr_any {U M : Nat} {w : World} {l : List Int} {err : Int} (h : Rd U M w l err) :
    Calls Tryd.prog 83 #[.pointer (some ⟨M, 0, none⟩)] w fun e w' => e = .returned (.int .i64 err) ∧ w = w' := by
  obtain ⟨p, cap, hM, hS, hc, hU⟩ := h
  go_enter Tryd.func83, Tryd.ntmps83
  go_wp2
  go_ret
  exact ⟨rfl, rfl⟩
/-- The end. -/
def rdEnd (l : List Int) (err : Int) : Int := if err ≠ 0 then err else if 0 < l.length then 4 else 0
set_option maxHeartbeats 4000000 in
theorem rend_any {U M : Nat} {w : World} {l : List Int} {err : Int} (h : Rd U M w l err) :
    Calls Tryd.prog 35 #[.pointer (some ⟨M, 0, none⟩)] w fun e w' => e = .returned (.int .i64 (rdEnd l err)) ∧ Kep (fun k => k = M) w w' := by
  have HE := Lib.hid (rerr_any h)
  by_cases he : err = 0
  · subst he
    by_cases hl : 0 < l.length
    · have hF := fail_any h 4
      obtain ⟨p, cap, hM, hS, hc, hU⟩ := h
      have HF := Lib.hid hF
      have hl' : 0 < (l.length : Int) := by omega
      have HU : Hid (rdEnd l 0 = 4) := Lib.hid (by unfold rdEnd; rw [if_neg (by simp), if_pos hl])
      clear hF
      go_enter Tryd.func35, Tryd.ntmps35
      go_wp2_with (first | (go_at_call 83; refine HE.out.mono ?_; rintro e w' ⟨rfl, rfl⟩) | (go_at_call 82; refine HF.out.mono ?_; rintro e w2 ⟨rfl, hR2, hK2⟩; obtain ⟨p2, cap2, hM2, _, _, _⟩ := hR2))
      go_ret
      rw [HU.out]
      exact ⟨rfl, hK2⟩
    · have hl' : (l.length : Int) ≤ 0 := by omega
      have HU : Hid (rdEnd l 0 = 0) := Lib.hid (by unfold rdEnd; rw [if_neg (by simp), if_neg hl])
      obtain ⟨p, cap, hM, hS, hc, hU⟩ := h
      go_enter Tryd.func35, Tryd.ntmps35
      go_wp2_with (first | (go_at_call 83; refine HE.out.mono ?_; rintro e w' ⟨rfl, rfl⟩))
      go_ret
      rw [HU.out]
      exact ⟨rfl, Kep.refl _ _⟩
  · have h1 : (err == 0) = false := beq_eq_false_iff_ne.2 he
    have h2 : (err != 0) = true := bne_iff_ne.2 he
    have HU : Hid (rdEnd l err = err) := Lib.hid (by unfold rdEnd; rw [if_pos he])
    go_enter Tryd.func35, Tryd.ntmps35
    go_wp2_with (first | (go_at_call 83; refine HE.out.mono ?_; rintro e w' ⟨rfl, rfl⟩))
    go_ret
    rw [HU.out]
    exact ⟨rfl, Kep.refl _ _⟩
set_option maxHeartbeats 4000000 in
theorem onew_any (l : List Int) (hl : l.length ≤ 1073741824) (p : Option Addr) (cap : Nat) (w : World) (hS : SL .u8 w p l) :
    Calls Tryd.prog 33 #[.slice p l.length cap] w fun e w' => ∃ M, e = .returned (.pointer (some ⟨M, 0, none⟩)) ∧ w.heap.size ≤ M ∧ Rd M M w' l 0 ∧ Below w.heap.size w w' := by
  go_enter Tryd.func33, Tryd.ntmps33
  go_wp2_with (go_at_call 80; refine (clone_any l (by omega) p cap w hS).mono ?_; rintro e w1 ⟨v1, rfl, hO1, hB1⟩; obtain ⟨p1, c1, rfl, hS1, hc1⟩ := hO1.form)
  go_ret
  exact ⟨_, rfl, hB1.size, ⟨p1, c1, blk1_0 _ _, hS1.alloc _, hc1, Lib.hid (fun a ha hl => hS1.lt hl a ha)⟩, hB1.alloc hB1.size _⟩
end Go.Proofs.YtjieiijbgbkikaaDoor
end
section
/- copy into a row of cells, as one operation. No program is used here. -/
namespace Go.Proofs.YtjieiijbgbkikaaDoor
open Go Go.RowKit
section
variable {P : Program} {o : Oper} {a : Act} {w : World} {Q : Exit → Act → World → Prop} {K : Act → World → Prop}
theorem wp_cp_seg {d s : Operand} {dT sT : TypeId} (ho : o.op = .call { callee := .builtin .copy, args := #[d, s], argTypes := #[dT, sT] }) {elem : TypeId} (hu : P.underlying dT = some (.slice elem))
    (hsz : (P.info? elem).map (·.size) = some 1) {g off dLen dCap sLen sCap : Nat} {sp : Option Addr} (hd : a.eval d = .slice (some ⟨g, off, none⟩) dLen dCap) (hs : a.eval s = .slice sp sLen sCap)
    {t : TypeId} {cs : Array Value} (hg : w.heap[g]? = some (.cells cs t (0, 0))) {k : IntKind} {src : List Int} (hsrc : SL k w sp src) (hsl : sLen = src.length) {n : Nat} (hn : n = min sLen dLen) (hfit : off + n ≤ cs.size)
    (h : ∀ w', w'.heap[g]? = some (.cells (overC cs off (ints k (src.take n))) t (0, 0)) → Kep (fun b => b = g) w w' → K (a.put o.dst (.int .i64 n)) w') : o.wp P a w K Q := by
  have hlen : ((src.take n).map (Value.int k)).length = n := by simp; omega
  by_cases h0 : n = 0
  · have hrun := run_copy_none (P := P) w dT sT o.type elem (some ⟨g, off, none⟩) sp dLen dCap sLen sCap hu hsz (by show min sLen dLen = 0; omega)
    unfold Oper.wp
    simp [execOp, ho, resolve, invoke, builtin, hd, hs, hrun, Result.andThen]
    have := h w (by rw [hg]; subst h0; simp [overC, ints]) (Kep.refl _ _)
    subst h0
    exact this
  · obtain ⟨ad, rfl, hv⟩ := hsrc.vals (n := n) (by omega) (by omega)
    have hrun := run_copy_row (P := P) w dT sT o.type elem g off dLen dCap ad sLen sCap cs t ((src.take n).map (Value.int k)) hu hsz hg (by rw [hlen]; exact hn) hv (by rw [hlen]; exact hfit) (by
      intro v hv'; obtain ⟨x, _, rfl⟩ := List.mem_map.1 hv'; rfl)
    unfold Oper.wp
    simp only [execOp, ho, resolve, invoke, builtin, hd, hs, hrun, Result.andThen_ok, Sem.run_bind, Sem.run_pure, List.map_toArray, List.map_cons, List.map_nil]
    rw [hlen]
    try rw [← List.append_assoc]
    have he : (cs.toList.take off ++ (src.take n).map (Value.int k) ++ cs.toList.drop (off + n)).toArray = overC cs off (ints k (src.take n)) := by
      have h2 : (ints k (src.take n)).size = n := by rw [size_ints]; simpa using hlen
      have h3 : (ints k (src.take n)).toList = (src.take n).map (Value.int k) := by simp [ints]
      unfold overC
      rw [h2, h3]
    rw [he]
    exact h _ (setRow_heap w g _ _ t _ hg) ((Kep.refl (fun b => b = g) w).setRow (g := g) (.inl rfl) _)
end
end Go.Proofs.YtjieiijbgbkikaaDoor
end
section
/- Package packet: how a field is read. -/
namespace Go.Proofs.YtjieiijbgbkikaaDoor
open Go Go.RowKit
set_option maxRecDepth 100000
attribute [local go_sem] cell?_eq frozen?_eq heap_setCell_eq heap_setCell_ne

theorem Rd.kepU {U M : Nat} {w w' : World} {l : List Int} {err : Int} {S : Nat → Prop} (h : Rd U M w l err) (hk : Kep S w w') (hM : ¬ S M) (hS : ∀ b, S b → U ≤ b) : Rd U M w' l err := by
  obtain ⟨p, cap, h1, h2, h3, h4⟩ := h
  exact ⟨p, cap, hk.heap h1 hM, h2.kep hk (fun a ha hl hsa => by have := h4.out a ha hl; have := hS _ hsa; omega), h3, h4⟩
theorem Rd.ne {U M : Nat} {w : World} {l : List Int} {err : Int} (h : Rd U M w l err) {X : Nat} {cs : Array Value} {T : TypeId} {fr : Nat × Nat} (hX : w.heap[X]? = some (.cells cs T fr)) (hT : T ≠ 120) : M ≠ X := by
  rintro rfl
  obtain ⟨p, cap, h1, _⟩ := h
  rw [h1] at hX
  simp only [Option.some.injEq, Obj.cells.injEq] at hX
  exact hT hX.2.1.symm
/-- A packet, its body, what is left to be read, the error. -/
def rdPart (n : Nat) (x : Pkt) (m l : List Int) (err : Int) : Pkt × List Int × List Int × Int :=
  match n with
  | 0 => ({ x with peer := (rdUpto l err 65536).1 }, m, (rdUpto l err 65536).2.1, (rdUpto l err 65536).2.2)
  | 1 => ({ x with session := (rdNumber l err).1 }, m, (rdNumber l err).2.1, (rdNumber l err).2.2)
  | 2 => ({ x with epoch := (rdUpto l err 4294967295).1 }, m, (rdUpto l err 4294967295).2.1, (rdUpto l err 4294967295).2.2)
  | 3 => ({ x with count := (rdNumber l err).1 }, m, (rdNumber l err).2.1, (rdNumber l err).2.2)
  | 4 => ({ x with random := overL x.random 0 (rdFixed l err 16).1, mark := overL x.mark 0 (rdFixed (rdFixed l err 16).2.1 (rdFixed l err 16).2.2 16).1 }, m,
      (rdFixed (rdFixed l err 16).2.1 (rdFixed l err 16).2.2 16).2.1, (rdFixed (rdFixed l err 16).2.1 (rdFixed l err 16).2.2 16).2.2)
  | _ => (x, (rdBlock l err).1, (rdBlock l err).2.1, (rdBlock l err).2.2)
def PkHas (B X : Nat) (w : World) (x : Pkt) (m : List Int) : Prop :=
  ∃ vb, w.heap[X]? = some (.cells (pktC x vb) 27 (0, 0)) ∧ Own B w 5 .u8 vb m
def PkPost (B U M X : Nat) (w : World) (y : Pkt × List Int × List Int × Int) (e : Ending) (w' : World) : Prop :=
  e = .returned (.tuple #[]) ∧ Rd U M w' y.2.2.1 y.2.2.2 ∧ PkHas B X w' y.1 y.2.1 ∧ Kep (fun k => k = M ∨ k = X) w w'
theorem Own.notX {B : Nat} {w w' : World} {v : Value} {l : List Int} {M X : Nat} (h : Own B w 5 .u8 v l) (hk : Kep (fun k => k = M ∨ k = X) w w') {cM cX : Array Value} {tM tX : TypeId} {fM fX : Nat × Nat}
    (hM : w.heap[M]? = some (.cells cM tM fM)) (hX : w.heap[X]? = some (.cells cX tX fX)) (h1 : tM ≠ 5) (h2 : tX ≠ 5) : Own B w' 5 .u8 v l :=
  h.kep hk fun g hg e => by
    rcases e with rfl | rfl
    · exact h.ne hM h1 hg
    · exact h.ne hX h2 hg
theorem Rd.obj {U M : Nat} {w : World} {l : List Int} {err : Int} (h : Rd U M w l err) : ∃ c f, w.heap[M]? = some (.cells c 120 f) := by
  obtain ⟨p, cap, h1, _⟩ := h
  exact ⟨_, _, h1⟩
theorem kep_two {M X : Nat} {w w1 w2 : World} (hK1 : Kep (fun k => k = M) w w1) (hk : Kep (fun k => k = X) w1 w2) : Kep (fun k => k = M ∨ k = X) w w2 :=
  ⟨hk.os.trans hK1.os, hk.tape.trans hK1.tape, hk.output.trans hK1.output, Nat.le_trans hK1.size hk.size, fun k hk' hn => (hk.block k (Nat.lt_of_lt_of_le hk' hK1.size) (fun e => hn (.inr e))).trans (hK1.block k hk' (fun e => hn (.inl e)))⟩
theorem pktC_over_random0 {x : Pkt} {vb : Value} (hx : x.random.length = 16) {y : List Int} (h : y.length = 16 ∨ y.length = 0) : overC (pktC x vb) 5 (ints .u8 y) = pktC { x with random := overL x.random 0 y } vb := by
  rcases h with h | h
  · rw [pktC_over_random x vb y h, overL_all (by omega)]
  · have : y = [] := List.length_eq_zero_iff.1 h
    subst this
    have h1 : overL x.random 0 [] = x.random := by simp [overL]
    rw [h1]
    simp [overC, ints]
theorem pktC_over_mark0 {x : Pkt} {vb : Value} (hx : x.mark.length = 16) {y : List Int} (h : y.length = 16 ∨ y.length = 0) : overC (pktC x vb) 21 (ints .u8 y) = pktC { x with mark := overL x.mark 0 y } vb := by
  rcases h with h | h
  · rw [pktC_over_mark x vb y h, overL_all (by omega)]
  · have : y = [] := List.length_eq_zero_iff.1 h
    subst this
    have h1 : overL x.mark 0 [] = x.mark := by simp [overL]
    rw [h1]
    simp [overC, ints]
theorem rdFixed_n (l : List Int) (err : Int) (N : Nat) : (rdFixed l err N).1.length = N ∨ (rdFixed l err N).1.length = 0 := by
  unfold rdFixed
  split
  · exact .inr rfl
  split
  · exact .inr rfl
  · left; simp only [List.length_take]; omega
theorem rdFixed_le (l : List Int) (err : Int) (N : Nat) : (rdFixed l err N).2.1.length ≤ l.length := by
  unfold rdFixed
  split
  · exact Nat.le_refl _
  split
  · exact Nat.le_refl _
  · simp only [List.length_drop]; omega
/-- A number is stored. -/
theorem pk_store {B U M X : Nat} {w w1 : World} {x x' : Pkt} {m l1 : List Int} {e1 : Int} {vb v : Value} {o : Nat} (hU : U ≤ X) (hMX : M ≠ X) (hX : w.heap[X]? = some (.cells (pktC x vb) 27 (0, 0))) (hO : Own B w 5 .u8 vb m)
    {l : List Int} {err : Int} (hR : Rd U M w l err) (hR1 : Rd U M w1 l1 e1) (hK1 : Kep (fun k => k = M) w w1) (hs : (pktC x vb).setIfInBounds o v = pktC x' vb) (y : Pkt × List Int × List Int × Int) (hy : y = (x', m, l1, e1)) :
    PkPost B U M X w y (.returned (.tuple #[])) (w1.setCell ⟨X, o, none⟩ v) := by
  subst hy
  have hX1 := hK1.heap hX (fun e => hMX e.symm)
  have hk := (Kep.refl (fun k => k = X) w1).setCell (g := X) (o := o) (.inl rfl) v
  obtain ⟨cM, fM, hM1⟩ := hR.obj
  have hO1 : Own B w1 5 .u8 vb m := hO.kep hK1 (fun g hg e => hO.ne hM1 (by decide) (by rw [hg, e]))
  refine ⟨rfl, hR1.kepU hk hMX (fun b e => by subst e; exact hU), ⟨vb, ?_, hO1.kep hk (fun g hg e => hO1.ne hX1 (by decide) (by rw [hg, e]))⟩, kep_two hK1 hk⟩
  rw [heap_setCell_eq, hX1, putOf_some, hs]
theorem rdUpto_most {l : List Int} (hB : Bd 256 l) (err : Int) {most : Int} (h0 : 0 ≤ most) : 0 ≤ (rdUpto l err most).1 ∧ (rdUpto l err most).1 ≤ most := by
  have h := (rdNumber_ok hB err).1.1
  unfold rdUpto
  split
  · exact ⟨Int.le_refl _, h0⟩
  split
  · exact ⟨Int.le_refl _, h0⟩
  · omega
set_option maxHeartbeats 8000000 in
theorem read_any (n : Nat) (hn : n < 6) (x : Pkt) (hx : PktOk x) (m l : List Int) (err : Int) (B U M X : Nat) (vb : Value) (w : World) (hBw : B ≤ w.heap.size) (hUX : U ≤ X) (hR : Rd U M w l err) (hBd : Bd 256 l) (hl : l.length ≤ 1073741824)
    (hX : w.heap[X]? = some (.cells (pktC x vb) 27 (0, 0))) (hO : Own B w 5 .u8 vb m) :
    Calls Tryd.prog (readF n) #[.pointer (some ⟨M, 0, none⟩), .pointer (some ⟨X, 0, none⟩)] w (PkPost B U M X w (rdPart n x m l err)) := by
  have hMX := hR.ne hX (by decide)
  match n, hn with
  | 0, _ =>
    show Calls Tryd.prog 52 _ _ _
    obtain ⟨y, hy⟩ : ∃ y, y = rdUpto l err 65536 := ⟨_, rfl⟩
    have HY := Lib.hid hy
    have HW : Hid (wrap64 y.1 = y.1) := Lib.hid (by rw [hy]; (try first | rfl | (have := rdUpto_most hBd err (most := 65536) (by decide); unfold wrap64; omega)))
    have HN := Lib.hid (rupto_any hR hBd hl 65536)
    rw [← hy] at HN
    have HR := Lib.hid hR
    have HM := Lib.hid hMX
    clear hy hR hMX
    go_enter Tryd.func52, Tryd.ntmps52
    go_wp2_with (go_at_call 34; refine HN.out.mono ?_; rintro e w1 ⟨rfl, hR1, hK1⟩; have hX1 := hK1.heap hX (fun e => HM.out e.symm))
    go_end0
    exact pk_store hUX HM.out hX hO HR.out hR1 hK1 (pktC_set_peer ..) _ (by first | (rw [HW.out, HY.out]; rfl) | (rw [HY.out]; rfl))
  | 1, _ =>
    show Calls Tryd.prog 56 _ _ _
    obtain ⟨y, hy⟩ : ∃ y, y = rdNumber l err := ⟨_, rfl⟩
    have HY := Lib.hid hy
    have HW : Hid (y.1 = y.1) := Lib.hid (by rw [hy]; (try first | rfl | (rfl)))
    have HN := Lib.hid (rnum_any hR hBd hl)
    rw [← hy] at HN
    have HR := Lib.hid hR
    have HM := Lib.hid hMX
    clear hy hR hMX
    go_enter Tryd.func56, Tryd.ntmps56
    go_wp2_with (go_at_call 57; refine HN.out.mono ?_; rintro e w1 ⟨rfl, hR1, hK1⟩; have hX1 := hK1.heap hX (fun e => HM.out e.symm))
    go_end0
    exact pk_store hUX HM.out hX hO HR.out hR1 hK1 (pktC_set_session ..) _ (by first | (rw [HW.out, HY.out]; rfl) | (rw [HY.out]; rfl))
  | 2, _ =>
    show Calls Tryd.prog 61 _ _ _
    obtain ⟨y, hy⟩ : ∃ y, y = rdUpto l err 4294967295 := ⟨_, rfl⟩
    have HY := Lib.hid hy
    have HW : Hid (y.1 % 4294967296 = y.1) := Lib.hid (by rw [hy]; (try first | rfl | (have := rdUpto_most hBd err (most := 4294967295) (by decide); omega)))
    have HN := Lib.hid (rupto_any hR hBd hl 4294967295)
    rw [← hy] at HN
    have HR := Lib.hid hR
    have HM := Lib.hid hMX
    clear hy hR hMX
    go_enter Tryd.func61, Tryd.ntmps61
    go_wp2_with (go_at_call 34; refine HN.out.mono ?_; rintro e w1 ⟨rfl, hR1, hK1⟩; have hX1 := hK1.heap hX (fun e => HM.out e.symm))
    go_end0
    exact pk_store hUX HM.out hX hO HR.out hR1 hK1 (pktC_set_epoch ..) _ (by first | (rw [HW.out, HY.out]; rfl) | (rw [HY.out]; rfl))
  | 3, _ =>
    show Calls Tryd.prog 65 _ _ _
    obtain ⟨y, hy⟩ : ∃ y, y = rdNumber l err := ⟨_, rfl⟩
    have HY := Lib.hid hy
    have HW : Hid (y.1 = y.1) := Lib.hid (by rw [hy]; (try first | rfl | (rfl)))
    have HN := Lib.hid (rnum_any hR hBd hl)
    rw [← hy] at HN
    have HR := Lib.hid hR
    have HM := Lib.hid hMX
    clear hy hR hMX
    go_enter Tryd.func65, Tryd.ntmps65
    go_wp2_with (go_at_call 57; refine HN.out.mono ?_; rintro e w1 ⟨rfl, hR1, hK1⟩; have hX1 := hK1.heap hX (fun e => HM.out e.symm))
    go_end0
    exact pk_store hUX HM.out hX hO HR.out hR1 hK1 (pktC_set_count ..) _ (by first | (rw [HW.out, HY.out]; rfl) | (rw [HY.out]; rfl))
  | 5, _ =>
    show Calls Tryd.prog 75 _ _ _
    have HN := Lib.hid (rblock_any hR hBd hl)
    have HM := Lib.hid hMX
    clear hR hMX
    go_enter Tryd.func75, Tryd.ntmps75
    go_wp2_with (go_at_call 76; refine HN.out.mono ?_; rintro e w1 ⟨v1, rfl, hO1, hR1, hK1⟩; have hX1 := hK1.heap hX (fun e => HM.out e.symm); obtain ⟨p1, c1, rfl, hS1, hc1⟩ := hO1.form)
    go_end0
    have hk := (Kep.refl (fun k => k = X) w1).setCell (g := X) (o := 37) (.inl rfl) (.slice p1 (rdBlock l err).1.length c1)
    refine ⟨rfl, hR1.kepU hk HM.out (fun b e => by subst e; exact hUX), ⟨.slice p1 (rdBlock l err).1.length c1, ?_, (hO1.mono hBw).kep hk (fun g hg e => hO1.ne hX1 (by decide) (by rw [hg, e]))⟩, kep_two hK1 hk⟩
    rw [heap_setCell_eq, hX1, putOf_some, pktC_set_body]
    rfl
  | 4, _ =>
    show Calls Tryd.prog 69 _ _ _
    have HM := Lib.hid hMX
    have hlr := hx.random
    have hlm := hx.mark
    obtain ⟨cM, fM, hM0⟩ := hR.obj
    obtain ⟨y, hy⟩ : ∃ y, y = rdFixed l err 16 := ⟨_, rfl⟩
    have hy1 : (y.1.length = 16 ∨ y.1.length = 0) ∧ y.2.1.length ≤ 1073741824 := by rw [hy]; exact ⟨rdFixed_n .., Nat.le_trans (rdFixed_le ..) hl⟩
    obtain ⟨hy1, hy2⟩ := hy1
    obtain ⟨z, hz⟩ : ∃ z, z = rdFixed y.2.1 y.2.2 16 := ⟨_, rfl⟩
    have hz1 : (z.1.length = 16 ∨ z.1.length = 0) := by rw [hz]; exact rdFixed_n ..
    have HF1 := Lib.hid (rfixed_any (hR.below ((Below.refl _ w).drew)) hl 16 (by decide))
    rw [← hy] at HF1
    have HZ := Lib.hid hz
    have HY := Lib.hid hy
    clear hR hMX hy hz
    go_enter Tryd.func69, Tryd.ntmps69
    go_wp2
    refine wp_region_E [5] (S1 (fun _ => True) (fun _ => True)) (by kernel_rfl) ?_
    have hI0 : ∀ wx, S1 (fun _ => True) (fun _ => True) [false] wx := fun wx => ⟨trivial, fun _ => trivial⟩
    try simp only [Act.put, List.setIfInBounds_toArray, List.set_cons_zero, List.set_cons_succ]
    refine takeA (i := 0) (v := ?_) rfl (by kernel_rfl) (fun _ _ _ h => h) rfl (by exact hI0 _) (fun wx hx => ?_) ?_
    rotate_left
    · go_simp; try with_reducible rfl
    try simp only [Act.put, List.setIfInBounds_toArray, List.set_cons_zero, List.set_cons_succ]
    refine takeA (i := 1) (v := ?_) rfl (by kernel_rfl) (fun _ _ _ h => h) rfl (by exact hI0 _) (fun wx hx => ?_) ?_
    rotate_left
    · go_simp; try with_reducible rfl
    try simp only [Act.put, List.setIfInBounds_toArray, List.set_cons_zero, List.set_cons_succ]
    refine takeA (i := 2) (v := ?_) rfl (by kernel_rfl) (fun _ _ _ h => h) rfl (by exact hI0 _) (fun wx hx => ?_) ?_
    rotate_left
    · go_simp; try with_reducible rfl
    try simp only [Act.put, List.setIfInBounds_toArray, List.set_cons_zero, List.set_cons_succ]
    refine takeA (i := 3) (v := ?_) rfl (by kernel_rfl) (fun _ _ _ h => h) rfl (by exact hI0 _) (fun wx hx => ?_) ?_
    rotate_left
    · go_simp; try with_reducible rfl
    try simp only [Act.put, List.setIfInBounds_toArray, List.set_cons_zero, List.set_cons_succ]
    refine takeA (i := 4) (v := ?_) rfl (by kernel_rfl) (fun _ _ _ h => h) rfl (by exact hI0 _) (fun wx hx => ?_) ?_
    rotate_left
    · go_simp; try with_reducible rfl
    try simp only [Act.put, List.setIfInBounds_toArray, List.set_cons_zero, List.set_cons_succ]
    refine runOne (i := 5) (by kernel_rfl) rfl rfl ?_
    go_simp
    refine (HF1.out).mono ?_
    rintro e w1 ⟨v1, rfl, hO1, hR1, hK1⟩
    have hX1 := hK1.heap hX (fun e => HM.out e.symm)
    obtain ⟨p1, c1, rfl, hS1, hc1⟩ := hO1.form
    have hI1 : ∀ wx, S1 (fun _ => True) (fun _ => True) [true] wx := fun wx => ⟨trivial, fun _ => trivial⟩
    refine ⟨by exact hI1 _, ?_⟩
    try simp only [Act.put, List.setIfInBounds_toArray, List.set_cons_zero, List.set_cons_succ]
    refine runOne (i := 6) (by kernel_rfl) rfl rfl (wp_cp_seg rfl Tryd.underlying25 (by kernel_rfl) (g := X) (off := 5) (dLen := 16) (dCap := 16) rfl rfl (by exact hX1) (by exact hS1) rfl (n := y.1.length) (by omega) (by rw [pktC_size]; omega) ?_)
    intro w11 hX1' hK1'
    rw [List.take_length, pktC_over_random0 hlr hy1] at hX1'
    have hI2 : ∀ wx, S1 (fun _ => True) (fun _ => True) [true] wx := fun wx => ⟨trivial, fun _ => trivial⟩
    refine ⟨by exact hI2 _, ?_⟩
    try simp only [Act.put, List.setIfInBounds_toArray, List.set_cons_zero, List.set_cons_succ]
    refine wpAnyE_done (by kernel_rfl) ?_ _
    have hR3 := hR1.kepU hK1' HM.out (fun b e => by subst e; exact hUX)
    have hzz := hK1'.size
    have HF2 := Lib.hid (rfixed_any (hR3.below ((Below.refl _ w11).drew)) hy2 16 (by decide))
    rw [← HZ.out] at HF2
    have hKa := kep_two hK1 hK1'
    go_wp2
    clear hI0 hI1 hI2
    refine wp_region_E [5] (S1 (fun _ => True) (fun _ => True)) (by kernel_rfl) ?_
    have hI0 : ∀ wx, S1 (fun _ => True) (fun _ => True) [false] wx := fun wx => ⟨trivial, fun _ => trivial⟩
    try simp only [Act.put, List.setIfInBounds_toArray, List.set_cons_zero, List.set_cons_succ]
    refine takeA (i := 0) (v := ?_) rfl (by kernel_rfl) (fun _ _ _ h => h) rfl (by exact hI0 _) (fun wx hx => ?_) ?_
    rotate_left
    · go_simp; try with_reducible rfl
    try simp only [Act.put, List.setIfInBounds_toArray, List.set_cons_zero, List.set_cons_succ]
    refine takeA (i := 1) (v := ?_) rfl (by kernel_rfl) (fun _ _ _ h => h) rfl (by exact hI0 _) (fun wx hx => ?_) ?_
    rotate_left
    · go_simp; try with_reducible rfl
    try simp only [Act.put, List.setIfInBounds_toArray, List.set_cons_zero, List.set_cons_succ]
    refine takeA (i := 2) (v := ?_) rfl (by kernel_rfl) (fun _ _ _ h => h) rfl (by exact hI0 _) (fun wx hx => ?_) ?_
    rotate_left
    · go_simp; try with_reducible rfl
    try simp only [Act.put, List.setIfInBounds_toArray, List.set_cons_zero, List.set_cons_succ]
    refine takeA (i := 3) (v := ?_) rfl (by kernel_rfl) (fun _ _ _ h => h) rfl (by exact hI0 _) (fun wx hx => ?_) ?_
    rotate_left
    · go_simp; try with_reducible rfl
    try simp only [Act.put, List.setIfInBounds_toArray, List.set_cons_zero, List.set_cons_succ]
    refine takeA (i := 4) (v := ?_) rfl (by kernel_rfl) (fun _ _ _ h => h) rfl (by exact hI0 _) (fun wx hx => ?_) ?_
    rotate_left
    · go_simp; try with_reducible rfl
    try simp only [Act.put, List.setIfInBounds_toArray, List.set_cons_zero, List.set_cons_succ]
    refine runOne (i := 5) (by kernel_rfl) rfl rfl ?_
    go_simp
    refine (HF2.out).mono ?_
    rintro e w2 ⟨v2, rfl, hO2, hR2, hK2⟩
    have hX2 := hK2.heap hX1' (fun e => HM.out e.symm)
    obtain ⟨p2, c2, rfl, hS2, hc2⟩ := hO2.form
    have hI1 : ∀ wx, S1 (fun _ => True) (fun _ => True) [true] wx := fun wx => ⟨trivial, fun _ => trivial⟩
    refine ⟨by exact hI1 _, ?_⟩
    try simp only [Act.put, List.setIfInBounds_toArray, List.set_cons_zero, List.set_cons_succ]
    refine runOne (i := 6) (by kernel_rfl) rfl rfl (wp_cp_seg rfl Tryd.underlying25 (by kernel_rfl) (g := X) (off := 21) (dLen := 16) (dCap := 16) rfl rfl (by exact hX2) (by exact hS2) rfl (n := z.1.length) (by omega) (by rw [pktC_size]; omega) ?_)
    intro w12 hX2' hK2'
    rw [List.take_length, pktC_over_mark0 (x := { x with random := overL x.random 0 y.1 }) hlm hz1] at hX2'
    have hI2 : ∀ wx, S1 (fun _ => True) (fun _ => True) [true] wx := fun wx => ⟨trivial, fun _ => trivial⟩
    refine ⟨by exact hI2 _, ?_⟩
    try simp only [Act.put, List.setIfInBounds_toArray, List.set_cons_zero, List.set_cons_succ]
    refine wpAnyE_done (by kernel_rfl) ?_ _
    have hR4 := hR2.kepU hK2' HM.out (fun b e => by subst e; exact hUX)
    have hKb := hKa.trans ((Kep.refl _ w11).drew.trans (kep_two hK2 hK2'))
    go_wp2
    go_end0
    have hKb' : Kep (fun k => k = M ∨ k = X) w w12 := (Kep.refl _ w).drew.trans hKb
    have hP : rdPart 4 x m l err = ({ x with random := overL x.random 0 y.1, mark := overL x.mark 0 z.1 }, m, z.2.1, z.2.2) := by rw [HZ.out, HY.out]; rfl
    unfold PkPost
    rw [hP]
    exact ⟨rfl, hR4, ⟨vb, hX2', (hO.notX hKb' hM0 hX (by decide) (by decide))⟩, hKb'⟩
end Go.Proofs.YtjieiijbgbkikaaDoor
end
section
/- The end of a function whose results are a whole row and a value. No program is used here. -/
namespace Go.Proofs.YtjieiijbgbkikaaDoor
open Go Go.RowKit
theorem Kep.wid {S S' : Nat → Prop} {w w' : World} (h : Kep S w w') (hs : ∀ i, i < w.heap.size → S i → S' i) : Kep S' w w' :=
  ⟨h.os, h.tape, h.output, h.size, fun k hk hn => h.block k hk (fun e => hn (hs k hk e))⟩
theorem end_row_tmp {P : Program} {fn : Func} {R : Ending → World → Prop} {a : Act} {w : World} {p u : Tmp} {ty : TypeId} (h : fn.results = #[.cell p ty, .tmp u]) {g : Nat} {v2 : Value}
    (hp : a.tmps.getD p undef = .pointer (some ⟨g, 0, none⟩)) (hv : a.tmps.getD u undef = v2) {t : TypeId} {cs : Array Value} {fr : Nat × Nat} (hg : w.heap[g]? = some (.cells cs t fr)) {d : TypeDesc} (hu : P.underlying ty = some d)
    (hd : isRow d = true) {n : Nat} (hi : (P.info? ty).map (·.size) = some n) (hl : cs.size = n) (hdf : a.defers = [])
    (hR : R (.returned (.tuple #[.agg cs, v2])) w) : bodyPost P fn R .ret a w := by
  refine bodyPost_ret (v := .tuple #[.agg cs, v2]) ?_ hdf hR
  have hp' : a.tmps[p]?.getD undef = .pointer (some ⟨g, 0, none⟩) := by simpa using hp
  have hv' : a.tmps[u]?.getD undef = v2 := by simpa using hv
  cases d <;> first | (simp [isRow] at hd; done) | (simp [results, h, hp', hv', asAddr, run_loadVar_row w g t ty cs fr _ hg hu rfl (by rw [hi, hl])])
section
variable {P : Program} {ops : Array Oper} {rest : List Oper} {o : Oper} {a : Act} {w : World} {Q : Exit → Act → World → Prop}
/-- A value that an operation builds, given as an equation. -/
theorem bd_eq (hgd : o.guard = none) {ty : TypeId} {ps : Array (Nat × Operand)} (_ho : o.op = .build ty ps) {v : Value} (h1 : (execOp a.eval o).run P w = .ok (.value v) w) (h : wpList P ops Q rest (a.put o.dst v) w) : wpList P ops Q (o :: rest) a w := by
  refine wpList_plain hgd fun K hK => ?_
  unfold Oper.wp
  rw [h1]
  exact hK _ _ h
end
end Go.Proofs.YtjieiijbgbkikaaDoor
end
