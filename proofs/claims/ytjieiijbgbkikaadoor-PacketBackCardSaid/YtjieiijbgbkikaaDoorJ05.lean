/- Lemmas of a proof over the given program, joined by wip/join.py: KPkRd KPkAl KHkA KChacha KRound. -/
import Derived.Test.YtjieiijbgbkikaaDoorJ01
import Derived.Test.YtjieiijbgbkikaaDoorJ02
import Derived.Test.YtjieiijbgbkikaaDoorJ03
import Derived.Test.YtjieiijbgbkikaaDoorJ04
import Derived.Test.YtjieiijbgbkikaaDoorChecked
import Derived.Deep.QuietTactic
import Derived.BigQuiet
import Derived.IntWalk
import Derived.Outline
set_option linter.unusedSimpArgs false
set_option linter.unusedVariables false
section
/- Package packet: Read. -/
namespace Go.Proofs.YtjieiijbgbkikaaDoor
open Go Go.RowKit
set_option maxRecDepth 100000
attribute [local go_sem] cell?_eq frozen?_eq heap_setCell_eq heap_setCell_ne

def pkt0 : Pkt := { kind := 0, peer := 0, session := 0, epoch := 0, count := 0, random := zerosL 16, mark := zerosL 16 }
theorem pkt0_ok (k : Int) : PktOk { pkt0 with kind := k } :=
  ⟨⟨by show (0 : Int) ≤ 0; decide, by show (0 : Int) < _; decide⟩, ⟨by show (0 : Int) ≤ 0; decide, by show (0 : Int) < _; decide⟩, ⟨by show (0 : Int) ≤ 0; decide, by show (0 : Int) < _; decide⟩, zerosL_len _, zerosL_len _, Bd.zerosL (by decide) _, Bd.zerosL (by decide) _⟩
/-- The parts of the first k of a list. -/
def partsR (L : List Int) (y : Pkt × List Int × List Int × Int) : Nat → Pkt × List Int × List Int × Int
  | 0 => y
  | k + 1 => rdPart (nth L k).toNat (partsR L y k).1 (partsR L y k).2.1 (partsR L y k).2.2.1 (partsR L y k).2.2.2
def readS (l : List Int) : Pkt × List Int × List Int × Int :=
  partsR (hasS (rdUpto l 0 9).1) ({ pkt0 with kind := (rdUpto l 0 9).1 }, [], (rdUpto l 0 9).2.1, (rdUpto l 0 9).2.2) (hasS (rdUpto l 0 9).1).length
structure RdAllOk (n : Nat) (y : Pkt × List Int × List Int × Int) : Prop where
  pkt : PktOk y.1
  body : y.2.1.length ≤ 1048576
  bodyB : Bd 256 y.2.1
  left : Bd 256 y.2.2.1
  len : y.2.2.1.length ≤ n
theorem rdFixed_bd {l : List Int} (h : Bd 256 l) (err : Int) (N : Nat) : Bd 256 (rdFixed l err N).1 ∧ Bd 256 (rdFixed l err N).2.1 := by
  unfold rdFixed
  split
  · exact ⟨Bd.nil (by decide), h⟩
  split
  · exact ⟨Bd.nil (by decide), h⟩
  · exact ⟨h.take (by decide) _, h.drop (by decide) _⟩
theorem rdBlock_ok {l : List Int} (h : Bd 256 l) (err : Int) : (rdBlock l err).1.length ≤ 1048576 ∧ Bd 256 (rdBlock l err).1 ∧ Bd 256 (rdBlock l err).2.1 ∧ (rdBlock l err).2.1.length ≤ l.length := by
  have h1 := rdNumber_ok h err
  unfold rdBlock
  split
  · exact ⟨by simp, Bd.nil (by decide), h1.2.1, h1.2.2⟩
  split
  · exact ⟨by simp, Bd.nil (by decide), h1.2.1, h1.2.2⟩
  · have h2 := rdFixed_bd h1.2.1 0 (rdNumber l err).1.toNat
    refine ⟨?_, h2.1, h2.2, Nat.le_trans (rdFixed_le ..) h1.2.2⟩
    rcases rdFixed_n (rdNumber l err).2.1 0 (rdNumber l err).1.toNat with h3 | h3 <;> omega
theorem overL_len' {l new : List Int} {n : Nat} (h : l.length = n) (hn : new.length = n ∨ new.length = 0) : (overL l 0 new).length = n := by rw [overL_len (by omega), h]
theorem rdPart_ok {n N : Nat} (hn : n < 6) {x : Pkt} {m l : List Int} {err : Int} (h : RdAllOk N (x, m, l, err)) : RdAllOk N (rdPart n x m l err) := by
  obtain ⟨hx, hm, hmB, hl, hN⟩ := h
  dsimp only at hx hm hmB hl hN
  have hnum := rdNumber_ok hl err
  have hup := fun most => rdUpto_ok hl err most
  match n, hn with
  | 0, _ => exact ⟨⟨hx.session, hx.epoch, hx.count, hx.random, hx.mark, hx.randomB, hx.markB⟩, hm, hmB, (hup 65536).2.1, Nat.le_trans (hup 65536).2.2 hN⟩
  | 1, _ => exact ⟨⟨hnum.1, hx.epoch, hx.count, hx.random, hx.mark, hx.randomB, hx.markB⟩, hm, hmB, hnum.2.1, Nat.le_trans hnum.2.2 hN⟩
  | 2, _ =>
    have h3 := rdUpto_most hl err (most := 4294967295) (by decide)
    exact ⟨⟨hx.session, ⟨h3.1, by show (rdUpto l err 4294967295).1 < _; omega⟩, hx.count, hx.random, hx.mark, hx.randomB, hx.markB⟩, hm, hmB, (hup 4294967295).2.1, Nat.le_trans (hup 4294967295).2.2 hN⟩
  | 3, _ => exact ⟨⟨hx.session, hx.epoch, hnum.1, hx.random, hx.mark, hx.randomB, hx.markB⟩, hm, hmB, hnum.2.1, Nat.le_trans hnum.2.2 hN⟩
  | 4, _ =>
    have f1 := rdFixed_bd hl err 16
    have f2 := rdFixed_bd f1.2 (rdFixed l err 16).2.2 16
    exact ⟨⟨hx.session, hx.epoch, hx.count, overL_len' hx.random (rdFixed_n ..), overL_len' hx.mark (rdFixed_n ..), Bd.overL (by decide) hx.randomB _ f1.1, Bd.overL (by decide) hx.markB _ f2.1⟩, hm, hmB, f2.2, Nat.le_trans (rdFixed_le ..) (Nat.le_trans (rdFixed_le ..) hN)⟩
  | 5, _ =>
    have hb := rdBlock_ok hl err
    exact ⟨hx, hb.1, hb.2.1, hb.2.2.1, Nat.le_trans hb.2.2.2 hN⟩
theorem partsR_ok {N : Nat} {L : List Int} (hL : ∀ i, i < L.length → 0 ≤ nth L i ∧ nth L i < 6) {y : Pkt × List Int × List Int × Int} (h : RdAllOk N y) (k : Nat) (hk : k ≤ L.length) : RdAllOk N (partsR L y k) := by
  induction k with
  | zero => exact h
  | succ k ih => exact rdPart_ok (by have := hL k (by omega); omega) (ih (by omega))
theorem readS_ok {l : List Int} (h : Bd 256 l) : RdAllOk l.length (readS l) := by
  have hup := rdUpto_ok h 0 9
  exact partsR_ok (fun i hi => hasS_lt hi) ⟨pkt0_ok _, by simp, Bd.nil (by decide), hup.2.1, hup.2.2⟩ _ (Nat.le_refl _)
def readErr (l : List Int) : Int := if rdEnd (readS l).2.2.1 (readS l).2.2.2 = 0 ∧ checkS (readS l).1 (readS l).2.1.length = 0 then 0 else 4
def ReadPost (l : List Int) (w : World) (e : Ending) (w' : World) : Prop :=
  (if readErr l = 0 then ∃ vb, e = .returned (.tuple #[.agg (pktC (readS l).1 vb), .int .i64 0]) ∧ Own w.heap.size w' 5 .u8 vb (readS l).2.1
   else e = .returned (.tuple #[.agg (pktC pkt0 (.slice none 0 0)), .int .i64 4])) ∧ Below w.heap.size w w'
set_option maxHeartbeats 8000000 in
theorem pread_any (l : List Int) (hl : l.length ≤ 1073741824) (hB : Bd 256 l) (p : Option Addr) (cap : Nat) (w : World) (hS : SL .u8 w p l) :
    Calls Tryd.prog 15 #[.slice p l.length cap] w (ReadPost l w) := by
  have hup := rdUpto_most hB 0 (most := 9) (by decide)
  obtain ⟨r, hr⟩ : ∃ r, r = rdUpto l 0 9 := ⟨_, rfl⟩
  have HR := Lib.hid hr
  have hup2 := rdUpto_ok hB 0 9
  rw [← hr] at hup hup2
  clear hr
  have hw : wrap64 r.1 = r.1 := by unfold wrap64; omega
  go_enter Tryd.func15, Tryd.ntmps15
  go_wp2_with (first | (refine al_abs rfl (T := 27) rfl (cs := pktC pkt0 (.slice none 0 0)) (by kernel_rfl) ?_; intro w0 R hR0 hB0 hzR hzR') | (go_at_call 33; fail))
  refine (onew_any l hl p cap w0 (hS.below hB0)).mono ?_
  rintro e w1 ⟨M, rfl, hM0, hRd1, hB1⟩
  have hR1 := below_blk hB1 hR0
  have hBw1 := hB0.trans (hB1.mono hB0.size)
  clear hR0 hB1
  go_wp2_with (go_at_call 34; fail)
  refine (rupto_any hRd1 hB hl 9).mono ?_
  rw [← HR.out]
  rintro e w2 ⟨rfl, hRd2, hK2⟩
  have hMR := hRd1.ne hR1 (by decide)
  have hR2 := hK2.heap hR1 (fun e => hMR e.symm)
  have hMlt := hRd1.lt
  have hB2 := hK2.below hBw1 hBw1.size (fun k e => by have := hB0.size; subst e; omega)
  clear hK2 hRd1 hR1 hMlt hBw1 hB0
  go_wp2_with (first | (refine bd_eq rfl (ty := 27) rfl (v := .agg (pktC { pkt0 with kind := r.1 } (.slice none 0 0))) (by kernel_rfl) ?_) | (refine al_abs rfl (T := 27) rfl (cs := pktC pkt0 (.slice none 0 0)) (by kernel_rfl) ?_; intro w3 X hX3 hB3 hzX hzX') | (refine st_row rfl (ty := 27) (cs := pktC { pkt0 with kind := r.1 } (.slice none 0 0)) rfl rfl rfl (by exact hX3) (n := 38) (by kernel_rfl) (pktC_size _ _) (pktC_size _ _) (pktC_one _ _ rfl) ?_; have hX4 := setRow_heap w3 X _ (pktC { pkt0 with kind := r.1 } (.slice none 0 0)) _ _ hX3; have hk4 : Kep (fun b => b = X) w2 (w3.setRow X (pktC { pkt0 with kind := r.1 } (.slice none 0 0))) := Kep.setRow (S := fun b => b = X) (g := X) (Kep.of_below hB3 (fun b hb _ => hb)) (.inl rfl) _; generalize w3.setRow X (pktC { pkt0 with kind := r.1 } (.slice none 0 0)) = w4 at *; clear hX3 hB3) | (go_at_call 27; fail))
  have hMX0 : M < X := by have := hRd2.lt; omega
  have hRd4 := hRd2.kepU hk4 (fun e => by have := hRd2.lt; omega) (fun b e => by have := hRd2.lt; omega)
  have hR4 := hk4.heap hR2 (fun e => by have := (Array.getElem?_eq_some_iff.1 hR2).1; omega)
  have hB4 := hk4.below hB2 hB2.size (fun b e => by have := hB2.size; omega)
  clear hk4 hRd2 hR2 hB2
  refine (has_any r.1 w4).mono ?_
  rintro e w5 ⟨p5, rfl, hS5, _, hB5, hp5⟩
  have hX5 := below_blk hB5 hX4
  have hR5 := below_blk hB5 hR4
  have hRd5 := hRd4.below hB5
  have hBw5 := hB4.trans (hB5.mono hB4.size)
  have hl4 := hasS_len r.1
  have hlt6 : ∀ i, i < (hasS r.1).length → 0 ≤ nth (hasS r.1) i ∧ nth (hasS r.1) i < 6 := fun i hi => hasS_lt hi
  have hd5 : ∀ a, p5 = some a → hasS r.1 ≠ [] → a.block ≠ M ∧ a.block ≠ X := fun a ha hn => by
    have h1 := hp5 a ha
    have h2 := hRd4.lt
    have h3 := (Array.getElem?_eq_some_iff.1 hX4).1
    omega
  obtain ⟨L, hL⟩ : ∃ L, L = hasS r.1 := ⟨_, rfl⟩
  rw [← hL] at hS5 hl4 hlt6 hd5 ⊢
  have HL := Lib.hid hL
  have H6 := Lib.hid hlt6
  have HD := Lib.hid hd5
  obtain ⟨y0, hy0⟩ : ∃ y0 : Pkt × List Int × List Int × Int, y0 = ({ pkt0 with kind := r.1 }, [], r.2.1, r.2.2) := ⟨_, rfl⟩
  have hok : RdAllOk l.length y0 := by rw [hy0]; exact ⟨pkt0_ok _, by simp, Bd.nil (by decide), hup2.2.1, hup2.2.2⟩
  have HY0 := Lib.hid hy0
  have hH5 : PkHas w.heap.size X w5 y0.1 y0.2.1 := by rw [hy0]; exact ⟨_, hX5, Own.nil _ _ _ _⟩
  have hRd5' : Rd M M w5 y0.2.2.1 y0.2.2.2 := by rw [hy0]; exact hRd5
  clear hy0 hL hlt6 hd5 hp5 hB5 hX4 hR4 hRd4 hB4 hX5 hRd5
  go_wp2
  have hoks : ∀ k, k ≤ L.length → RdAllOk l.length (partsR L y0 k) := fun k hk => partsR_ok H6.out hok k hk
  have HOK := Lib.hid hoks
  clear hoks hok
  go_loopw [18] (fun iv wr => ∃ k : Nat, k ≤ L.length ∧ iv = .int .i64 k ∧ PkHas w.heap.size X wr (partsR L y0 k).1 (partsR L y0 k).2.1 ∧ Rd M M wr (partsR L y0 k).2.2.1 (partsR L y0 k).2.2.2 ∧ wr.heap[R]? = some (.cells (pktC pkt0 (.slice none 0 0)) 27 (0, 0)) ∧ SL .i64 wr p5 L ∧ Below w.heap.size w wr) (fun iv _ => L.length - (intOf iv).toNat)
  case atStart => exact ⟨0, by omega, rfl, hH5, hRd5', hR5, hS5, hBw5⟩
  case round =>
    clear hH5 hRd5' hR5 hS5 hBw5
    obtain ⟨k, hk, rfl, hH, hRd, hR, hS, hBw⟩ := hrel
    by_cases hlt : k < L.length
    · obtain ⟨b, off, rfl, hc⟩ := hS.open hlt
      obtain ⟨h60, h66⟩ := H6.out k hlt
      obtain ⟨n, hn⟩ : ∃ n : Nat, n = (nth L k).toNat := ⟨_, rfl⟩
      have hn6 : n < 6 := by omega
      have hnk : nth L k = (n : Int) := by omega
      have hcx := hc k hlt
      rw [hnk] at hcx
      have hcy := hcx
      rw [cell?_eq] at hcy
      have i1 : (k : Int) < (L.length : Int) := by omega
      have hstep : partsR L y0 (k + 1) = rdPart n (partsR L y0 k).1 (partsR L y0 k).2.1 (partsR L y0 k).2.2.1 (partsR L y0 k).2.2.2 := by rw [hn]; rfl
      have hOKk := HOK.out k hk
      obtain ⟨y, hy⟩ : ∃ y, y = partsR L y0 k := ⟨_, rfl⟩
      rw [← hy] at hH hRd hstep hOKk
      have HST := Lib.hid hstep
      clear hc hnk hn h60 h66 hy hstep
      have hen := read_enter n hn6
      have hfd : ∀ wx, (Instr.field 70 (.agg (ofV n)) 3).run Tryd.prog wx = .ok (.func (.func (readF n)) #[] #[]) wx := fun wx => by kernel_rfl
      go_wp2_with (go_at_call 28; fail)
      refine (of_any n hn6 wr).mono ?_
      rintro e w6 ⟨rfl, hB6⟩
      obtain ⟨vb, hX, hO⟩ := hH
      have hX6 := below_blk hB6 hX
      have hO6 := hO.below hB6
      have hRd6 := hRd.below hB6
      have hR6 := below_blk hB6 hR
      have hS6 := hS.below hB6
      have hBw6 := hBw.trans (hB6.mono hBw.size)
      clear hX hO hRd hR hS hBw hB6 hcx hcy
      go_wp2
      refine (read_any n hn6 y.1 hOKk.pkt y.2.1 y.2.2.1 y.2.2.2 w.heap.size M M X vb w6 hBw6.size (by omega) hRd6 hOKk.left (by have := hOKk.len; omega) hX6 hO6).mono ?_
      rintro e w7 ⟨rfl, hRd7, hH7, hK7⟩
      rw [← HST.out] at hRd7 hH7
      have hzz := hzR'.out
      have hS7 : SL .i64 w7 (some ⟨b, off, none⟩) L := hS6.kep hK7 (fun a ha hl e => by
        have h1 := HD.out a ha hl
        rcases e with e | e
        · exact h1.1 e
        · exact h1.2 e)
      have hR7 := hK7.heap hR6 (by omega)
      have hB7 := hK7.below hBw6 hBw6.size (fun k e => by rcases e with e | e <;> omega)
      clear hX6 hO6 hRd6 hR6 hS6 hBw6 hK7 hen hfd
      go_wp2
      go_roundw
      case rel => exact ⟨k + 1, by omega, by go_num, hH7, hRd7, hR7, hS7, hB7⟩
      case measure => simp [intOf]; omega
    · have ek : k = L.length := by omega
      subst ek
      obtain ⟨y, hy⟩ : ∃ y, y = partsR L y0 L.length := ⟨_, rfl⟩
      have hOK := HOK.out _ (Nat.le_refl L.length)
      rw [← hy] at hH hRd hOK
      have hyr : y = readS l := by rw [hy, HL.out, HY0.out, HR.out]; rfl
      have HYR := Lib.hid hyr
      clear hy hyr hS
      obtain ⟨vb, hX, hO⟩ := hH
      have hzz := hzR'.out
      go_wp2_with (go_at_call 35; fail)
      refine (rend_any hRd).mono ?_
      rintro e w6 ⟨rfl, hK6⟩
      have hX6 := hK6.heap hX (by omega)
      have hR6 := hK6.heap hR (by omega)
      have hO6 := hO.kep hK6 (fun g hg e => by obtain ⟨cM, fM, hM⟩ := hRd.obj; exact hO.ne hM (by decide) (by rw [hg, e]))
      have hB6 := hK6.below hBw hBw.size (fun k e => by omega)
      clear hX hR hO hBw hK6 hRd
      obtain ⟨E, hE⟩ : ∃ E, E = rdEnd y.2.2.1 y.2.2.2 := ⟨_, rfl⟩
      rw [← hE]
      have HE := Lib.hid hE
      clear hE
      by_cases h0 : E = 0
      · subst h0
        have hlp := Lib.hid (run_loadAt_row (P := Tryd.prog) (ty := 27) hX6 Tryd.underlying27 rfl (by kernel_rfl) (pktC_size _ _))
        obtain ⟨pv, cv, rfl, _, _⟩ := hO6.form
        go_wp2_with (first | (refine ld_g rfl (ty := 27) rfl (p := .pointer (some ⟨X, 0, none⟩)) rfl hlp.out ?_) | (go_at_call 11; fail))
        refine (check_any y.1 hOK.pkt pv y.2.1.length cv (by have := hOK.body; omega) w6).mono ?_
        rintro e w8 ⟨rfl, hB8⟩
        have hX8 := below_blk hB8 hX6
        have hR8 := below_blk hB8 hR6
        have hO8 := hO6.below hB8
        have hBw8 := hB6.trans (hB8.mono hB6.size)
        clear hX6 hR6 hO6 hB6 hB8 hlp
        obtain ⟨c, hc⟩ : ∃ c, c = checkS y.1 y.2.1.length := ⟨_, rfl⟩
        rw [← hc]
        have HC := Lib.hid hc
        clear hc
        by_cases h0 : c = 0
        · subst h0
          have HEr : Hid (readErr l = 0) := Lib.hid (by unfold readErr; rw [if_pos]; rw [← HYR.out, ← HE.out, ← HC.out]; exact ⟨rfl, rfl⟩)
          have hfin := setRow_heap w8 R _ (pktC y.1 (.slice pv y.2.1.length cv)) _ _ hR8
          have hOf : Own w.heap.size (w8.setRow R (pktC y.1 (.slice pv y.2.1.length cv))) 5 .u8 (.slice pv y.2.1.length cv) y.2.1 := hO8.kep ((Kep.refl (fun b => b = R) w8).setRow (g := R) (.inl rfl) _) (fun g hg e => hO8.ne hR8 (by decide) (by rw [hg, e]))
          have HF := Lib.hid hfin
          have HOF := Lib.hid hOf
          clear hfin hOf
          go_wp2_with (first | (refine ld_row rfl (ty := 27) rfl rfl hX8 Tryd.underlying27 rfl (by kernel_rfl) (pktC_size _ _) ?_) | (refine st_row rfl (ty := 27) (cs := pktC y.1 (.slice pv y.2.1.length cv)) rfl rfl rfl (by exact hR8) (n := 38) (by kernel_rfl) (pktC_size _ _) (pktC_size _ _) (pktC_one _ _ rfl) ?_))
          refine end_row_tmp (n := 38) rfl rfl rfl (by exact HF.out) Tryd.underlying27 rfl (by kernel_rfl) (pktC_size _ _) rfl ?_
          unfold ReadPost
          rw [if_pos HEr.out, ← HYR.out]
          exact ⟨⟨_, rfl, HOF.out⟩, belowRow hBw8 hzR _⟩
        · have h1 : (c == 0) = false := beq_eq_false_iff_ne.2 h0
          have h2 : (c != 0) = true := bne_iff_ne.2 h0
          have H0 := Lib.hid h0
          have HEr : Hid (readErr l = 4) := Lib.hid (by unfold readErr; rw [if_neg]; rw [← HYR.out, ← HC.out]; exact fun h => H0.out h.2)
          clear h0
          go_wp2_with (first | (refine bd_eq rfl (ty := 27) rfl (v := .agg (pktC pkt0 (.slice none 0 0))) (by kernel_rfl) ?_) | (refine st_row rfl (ty := 27) (cs := pktC pkt0 (.slice none 0 0)) rfl rfl rfl (by exact hR8) (n := 38) (by kernel_rfl) (pktC_size _ _) (pktC_size _ _) (pktC_one _ _ rfl) ?_))
          refine end_row_tmp (n := 38) rfl rfl rfl (by exact setRow_heap w8 R _ (pktC pkt0 (.slice none 0 0)) _ _ hR8) Tryd.underlying27 rfl (by kernel_rfl) (pktC_size _ _) rfl ?_
          unfold ReadPost
          rw [if_neg (by rw [HEr.out]; decide)]
          exact ⟨rfl, belowRow hBw8 hzR _⟩
      · have h1 : (E == 0) = false := beq_eq_false_iff_ne.2 h0
        have h2 : (E != 0) = true := bne_iff_ne.2 h0
        have H0 := Lib.hid h0
        have HEr : Hid (readErr l = 4) := Lib.hid (by unfold readErr; rw [if_neg]; rw [← HYR.out, ← HE.out]; exact fun h => H0.out h.1)
        clear h0
        go_wp2_with (first | (refine bd_eq rfl (ty := 27) rfl (v := .agg (pktC pkt0 (.slice none 0 0))) (by kernel_rfl) ?_) | (refine st_row rfl (ty := 27) (cs := pktC pkt0 (.slice none 0 0)) rfl rfl rfl (by exact hR6) (n := 38) (by kernel_rfl) (pktC_size _ _) (pktC_size _ _) (pktC_one _ _ rfl) ?_))
        refine end_row_tmp (n := 38) rfl rfl rfl (by exact setRow_heap w6 R _ (pktC pkt0 (.slice none 0 0)) _ _ hR6) Tryd.underlying27 rfl (by kernel_rfl) (pktC_size _ _) rfl ?_
        unfold ReadPost
        rw [if_neg (by rw [HEr.out]; decide)]
        exact ⟨rfl, belowRow hB6 hzR _⟩
end Go.Proofs.YtjieiijbgbkikaaDoor
end
section
/- Package packet: Along. -/
namespace Go.Proofs.YtjieiijbgbkikaaDoor
open Go Go.RowKit
set_option maxRecDepth 100000
attribute [local go_sem] cell?_eq frozen?_eq heap_setCell_eq heap_setCell_ne

def alongOk (x : Pkt) : Bool := decide (x.kind = 3) && decide (checkS x 16 = 0)
def AlongPost (x : Pkt) (w : World) (e : Ending) (w' : World) : Prop :=
  ∃ v, e = .returned v ∧ (alongOk x = true → Own w.heap.size w' 5 .u8 v (writeS x [])) ∧ (alongOk x = false → v = .slice none 0 0) ∧ Below w.heap.size w w'
set_option maxHeartbeats 8000000 in
theorem along_any (x : Pkt) (hx : PktOk x) (p : Option Addr) (bl cap : Nat) (w : World) :
    Calls Tryd.prog 14 #[.agg (pktC x (.slice p bl cap))] w (AlongPost x w) := by
  have hmk : ∀ wx, (Instr.makeSlice 25 (.int .i64 16) (.int .i64 16)).run Tryd.prog wx = .ok (.slice (some ⟨wx.heap.size, 0, none⟩) 16 16) (wx.alloc (.cells (ints .u8 (zerosL 16)) 5)) := fun wx =>
    run_make_ints (P := Tryd.prog) (T := 25) (k := .u8) (by' := 1) Tryd.underlying25 (E := 5) (by kernel_rfl) 16 (by omega) (by omega) wx
  go_enter Tryd.func14, Tryd.ntmps14
  go_wp2_with (first | (refine bx_abs rfl (ty := 27) rfl rfl ?_; intro W Q hQ hB hz hQz) | (refine ld_row rfl (ty := 27) rfl rfl hQ Tryd.underlying27 rfl (by kernel_rfl) (pktC_size _ _) ?_) | (refine al_abs rfl (T := 27) rfl (cs := pktC pkt0 (.slice none 0 0)) (by kernel_rfl) ?_; intro w3 X hX3 hB3 hzX hzX') | (refine st_row rfl (ty := 27) (cs := pktC x (.slice p bl cap)) rfl rfl rfl (by exact hX3) (n := 38) (by kernel_rfl) (pktC_size _ _) (pktC_size _ _) (pktC_one _ _ rfl) ?_; have hX4 := setRow_heap w3 X _ (pktC x (.slice p bl cap)) _ _ hX3; have hk4 : Kep (fun b => b = X) W (w3.setRow X (pktC x (.slice p bl cap))) := Kep.setRow (S := fun b => b = X) (g := X) (Kep.of_below hB3 (fun b hb _ => hb)) (.inl rfl) _; have hz4 : W.heap.size < (w3.setRow X (pktC x (.slice p bl cap))).heap.size := (by rw [size_setRow]; have := hzX'.out; omega); generalize w3.setRow X (pktC x (.slice p bl cap)) = w4 at *; clear hX3 hB3) | (go_at_call 31; fail))
  have hQX : Q ≠ X := by have := hQz.out; omega
  have hQ4 := hk4.heap hQ hQX
  have hXlt := (Array.getElem?_eq_some_iff.1 hX4).1
  refine (aextra_any w4).mono ?_
  rintro e w5 ⟨rfl, rfl⟩
  have hXa : (w5.alloc (.cells (ints .u8 (zerosL 16)) 5)).heap[X]? = _ := (heap_alloc_past w5 _ X hXlt).trans hX4
  have hQa : (w5.alloc (.cells (ints .u8 (zerosL 16)) 5)).heap[Q]? = _ := (heap_alloc_past w5 _ Q (Array.getElem?_eq_some_iff.1 hQ4).1).trans hQ4
  have hX5 : ((w5.alloc (.cells (ints .u8 (zerosL 16)) 5)).setCell ⟨X, 37, none⟩ (.slice (some ⟨w5.heap.size, 0, none⟩) 16 16)).heap[X]? = some (.cells (pktC x (.slice (some ⟨w5.heap.size, 0, none⟩) 16 16)) 27 (0, 0)) := by
    rw [heap_setCell_eq, hXa, putOf_some, pktC_set_body]
  have hkA : Kep (fun b => b = X) W ((w5.alloc (.cells (ints .u8 (zerosL 16)) 5)).setCell ⟨X, 37, none⟩ (.slice (some ⟨w5.heap.size, 0, none⟩) 16 16)) := (hk4.alloc _).setCell (g := X) (.inl rfl) _
  have HX5 := Lib.hid hX5
  have HKA := Lib.hid hkA
  have hlp := Lib.hid (run_loadAt_row (P := Tryd.prog) (ty := 27) hX5 Tryd.underlying27 rfl (by kernel_rfl) (pktC_size _ _))
  clear hX5 hkA hQ4 hk4 hXlt
  by_cases h3 : x.kind = 3
  · have b1 : (x.kind == 3) = true := beq_iff_eq.2 h3
    have b2 : (x.kind != 3) = false := by simp [h3]
    have H3 := Lib.hid h3
    clear h3
    go_wp2_with (first | (refine ld_g rfl (ty := 27) rfl (p := .pointer (some ⟨X, 0, none⟩)) rfl hlp.out ?_) | (go_at_call 11; fail))
    refine (check_any x hx (some ⟨w5.heap.size, 0, none⟩) 16 16 (by decide) _).mono ?_
    rintro e w6 ⟨rfl, hB6⟩
    have hK6 := HKA.out.then (Kep.of_below (S := fun _ => False) hB6 (fun k hk _ => hk)) (fun _ _ h => h.elim)
    have hQ6 := hK6.heap hQ hQX
    have hBw6 := hK6.below hB hB.size (fun k e => by subst e; have := hB.size; omega)
    clear hlp HX5 HKA hB6 hXa hQa hX4 hQ hK6
    by_cases hc : checkS x 16 = 0
    · have HA : Hid (alongOk x = true) := Lib.hid (by unfold alongOk; rw [H3.out, hc]; rfl)
      rw [hc]
      clear hc
      have hQ7 : (w6.setCell ⟨Q, 37, none⟩ (.slice none 0 0)).heap[Q]? = some (.cells (pktC x (.slice none 0 0)) 27 (0, 0)) := by rw [heap_setCell_eq, hQ6, putOf_some, pktC_set_body]
      have hk7 := (Kep.refl (fun b => b = Q) w6).setCell (g := Q) (o := 37) (.inl rfl) (.slice none 0 0)
      have hB7 := hk7.below hBw6 hBw6.size (fun k e => by omega)
      have HQ7 := Lib.hid hQ7
      have HB7 := Lib.hid hB7
      clear hQ7 hk7 hB7
      go_wp2_with (first | (refine ld_row rfl (ty := 27) rfl rfl HQ7.out Tryd.underlying27 rfl (by kernel_rfl) (pktC_size _ _) ?_) | (go_at_call 32; fail))
      refine (pwrite_any x hx [] none 0 (by simp) _ (SL.nil _ _ _)).mono ?_
      rintro e w8 ⟨v8, rfl, hO8, hB8⟩
      have hO := hO8.mono HB7.out.size
      have hBw := HB7.out.trans (hB8.mono HB7.out.size)
      clear HQ7 HB7 hO8 hB8 hQ6 hBw6
      go_wp2
      go_ret
      exact ⟨_, rfl, fun _ => hO, (fun h => by rw [HA.out] at h; cases h), hBw⟩
    · have hne : (checkS x 16 == 0) = false := beq_eq_false_iff_ne.2 hc
      have hne2 : (checkS x 16 != 0) = true := bne_iff_ne.2 hc
      have HA : Hid (alongOk x = false) := Lib.hid (by unfold alongOk; simp [hc])
      clear hc
      go_wp2
      go_ret
      exact ⟨_, rfl, (fun h => by rw [HA.out] at h; cases h), (fun _ => rfl), hBw6⟩
  · have b1 : (x.kind == 3) = false := beq_eq_false_iff_ne.2 h3
    have b2 : (x.kind != 3) = true := bne_iff_ne.2 h3
    have HA : Hid (alongOk x = false) := Lib.hid (by unfold alongOk; simp [h3])
    clear h3
    go_wp2
    go_ret
    exact ⟨_, rfl, (fun h => by rw [HA.out] at h; cases h), (fun _ => rfl), HKA.out.below hB hB.size (fun k e => by subst e; have := hB.size; omega)⟩
end Go.Proofs.YtjieiijbgbkikaaDoor
end
section
/- Package hkdf: right, Pad. -/
namespace Go.Proofs.YtjieiijbgbkikaaDoor
open Go Go.RowKit
set_option maxRecDepth 100000
attribute [local go_sem] cell?_eq frozen?_eq heap_setCell_eq heap_setCell_ne

def rightS (x n : Int) : Int := bits BinOp.or IntKind.u32 (x / 2 ^ n.toNat) (x * 2 ^ (32 - n).toNat % 4294967296)
theorem right_any (x n : Int) (w : World) (h0 : 0 ≤ n) (h1 : n ≤ 31) :
    Calls Tryd.prog 111 #[.int .u32 x, .int .u64 n] w fun e w' => e = .returned (.int .u32 (rightS x n)) ∧ w = w' := by
  go_enter Tryd.func111, Tryd.ntmps111
  go_wp2
  go_ret
  exact ⟨rfl, rfl⟩
/-- How many noughts stand behind n bytes and the mark. -/
def padZ (n : Int) : Nat := ((55 - n) % 64).toNat
theorem padZ_le (n : Int) : padZ n ≤ 63 := by unfold padZ; omega
theorem padZ_lt {n : Int} {k : Nat} (h : k < padZ n) : (n + ((k : Int) + 1) + 8) % 64 ≠ 0 := by unfold padZ at h; omega
theorem padZ_eq {n : Int} {k : Nat} (h : k = padZ n) : (n + ((k : Int) + 1) + 8) % 64 = 0 := by unfold padZ at h; omega
attribute [irreducible] padZ
/-- What stands behind n bytes. -/
def hpadS (n : Int) : List Int := 128 :: zerosL (padZ n) ++ beTo (8 * n) 8 8
theorem hpadS_len (n : Int) : (hpadS n).length = padZ n + 9 := by simp [hpadS, zerosL_len, beTo_len]
theorem hpadS_bd (n : Int) : Bd 256 (hpadS n) := ((Bd.cons (by decide) (by decide) (Bd.zerosL (by decide) _))).append (by decide) (beTo_bd _ _ _)
theorem zerosL_snoc (k : Nat) : zerosL k ++ [0] = zerosL (k + 1) := by
  unfold zerosL; rw [List.replicate_succ']
/-- A slice's length. -/
def lenV : Value → Nat
  | .slice _ m _ => m
  | _ => 0
set_option maxHeartbeats 4000000 in
theorem pad_any (n : Int) (hn0 : 0 < n) (hn1 : n ≤ 1099511627776) (w : World) :
    Calls Tryd.prog 109 #[.int .i64 n] w fun e w' => ∃ v, e = .returned v ∧ Own w.heap.size w' 5 .u8 v (hpadS n) ∧ Below w.heap.size w w' := by
  have hz := padZ_le n
  go_enter Tryd.func109, Tryd.ntmps109
  go_wp2
  have hO0 := Own.of_row (base := w.heap.size) (l := [128]) (blk1_0 w (.cells (ints .u8 [128]) 5)) (Nat.le_refl _) (by decide)
  go_loopw [3] (fun bv wr => ∃ k : Nat, k ≤ padZ n ∧ Own w.heap.size wr 5 .u8 bv (128 :: zerosL k) ∧ Below w.heap.size w wr) (fun bv _ => padZ n + 1 - lenV bv)
  case atStart => exact ⟨0, by omega, hO0, (Below.refl _ _).alloc (Nat.le_refl _) _⟩
  case round =>
    clear hO0
    obtain ⟨k, hk, hO, hB⟩ := hrel
    have hwz := hB.size
    obtain ⟨p1, c1, rfl, hS1, hc1⟩ := hO.form
    have hl : (128 :: zerosL k).length = k + 1 := by simp [zerosL_len]
    rw [hl]
    rw [hl] at hc1
    by_cases hlt : k < padZ n
    · have h1 := padZ_lt hlt
      go_wp2_with (refine ap_ints rfl rfl Tryd.underlying25 (E := 5) (k := .u8) (by' := 1) (by kernel_rfl) (by decide) (base := w.heap.size) (v := .slice p1 (k + 1) c1) (l := 128 :: zerosL k) (m := [0]) rfl (by rw [← hl]; exact hO.below ((Below.refl _ _).alloc (Nat.le_refl _) _)) rfl rfl (by exact SL.row_all (heap_alloc_at _ _ _ rfl)) (by rw [hl]; simp; omega) (by simp; omega) ?_; intro v2 w2 hO2 hg2 _)
      have hOa := hO.below ((Below.refl _ wr).alloc (Nat.le_refl _) (.cells #[Value.int .u8 0] 5))
      rw [hl] at hOa
      have hB2 := Own.grown hOa (hB.alloc hwz _) (by simp; omega) hg2
      have hf := Lib.hid hO2.form
      go_roundw
      case rel => exact ⟨k + 1, by omega, by rw [← zerosL_snoc]; exact hO2, hB2⟩
      case measure =>
        obtain ⟨p2, c2, e2, _, _⟩ := hf.out
        rw [e2]
        simp [lenV, zerosL_len]
        omega
    · have hk' : k = padZ n := by omega
      have h1 := padZ_eq hk'
      have HK := Lib.hid hk'; clear hk'
      have hv : Own w.heap.size wr 5 .u8 (.slice p1 (k + 1) c1) (128 :: zerosL k) := by rw [← hl]; exact hO
      clear hO hS1 hc1 hl
      go_wp2
      clear h1
      go_loopw [3, 4] (fun bv iv wx => ∃ d : Nat, d ≤ 8 ∧ iv = .int .i64 (7 - (d : Int)) ∧ Own w.heap.size wx 5 .u8 bv ((128 :: zerosL k) ++ beTo (8 * n) 8 d) ∧ Below w.heap.size w wx) (fun _ iv _ => (intOf iv + 1).toNat)
      case atStart => exact ⟨0, by omega, rfl, by rw [beTo_zero, List.append_nil]; exact hv, hB⟩
      case round =>
        clear hv hB hwz
        obtain ⟨d, hd, rfl, hO, hB⟩ := hrel
        have hwz := hB.size
        obtain ⟨p2, c2, rfl, hS2, hc2⟩ := hO.form
        obtain ⟨L, hL⟩ : ∃ L, L = (128 :: zerosL k) ++ beTo (8 * n) 8 d := ⟨_, rfl⟩
        have hLl : L.length ≤ 100 := by rw [hL]; simp [beTo_len, zerosL_len]; omega
        rw [← hL] at hO hS2 hc2 ⊢
        have HL := Lib.hid hL; clear hL
        by_cases hlt2 : d < 8
        · have g0 : (d : Int) ≤ 7 := by omega
          have g1 : IntKind.u64.wrap n = n := IntWalk.u64_in _ (by omega)
          have g2 : IntKind.u64.wrap (n * 8) = n * 8 := IntWalk.u64_in _ (by omega)
          have g4 : (8 * (7 - (d : Int))).toNat = 8 * (8 - 1 - d) := by omega
          have g5 : n * 8 = 8 * n := by omega
          go_wp2_with (refine ap_ints rfl rfl Tryd.underlying25 (E := 5) (k := .u8) (by' := 1) (by kernel_rfl) (by decide) (base := w.heap.size) (v := .slice p2 L.length c2) (l := L) (m := [8 * n / 2 ^ (8 * (8 - 1 - d)) % 256]) rfl (by exact hO.below ((Below.refl _ _).alloc (Nat.le_refl _) _)) rfl rfl (by exact SL.row_all (heap_alloc_at _ _ _ rfl)) (by simp; omega) (by simp; omega) ?_; intro v3 w3 hO3 hg3 _)
          have hB3 := Own.grown (hO.below ((Below.refl _ wr).alloc (Nat.le_refl _) (.cells #[Value.int .u8 (8 * n / 2 ^ (8 * (8 - 1 - d)) % 256)] 5))) (hB.alloc hwz _) (by simp; omega) hg3
          go_roundw
          case rel =>
            refine ⟨d + 1, by omega, by rw [show (7 - (d : Int) - 1) = 7 - ((d + 1 : Nat) : Int) by omega], ?_, hB3⟩
            rw [beTo_succ, ← List.append_assoc, ← HL.out]; exact hO3
          case measure => simp [intOf]; omega
        · have Hd := Lib.hid (show d = 8 by omega)
          have g0 : 7 < (d : Int) := by omega
          go_wp2
          go_ret
          refine ⟨_, rfl, ?_, hB⟩
          have hh : L = hpadS n := by rw [HL.out, Hd.out, HK.out]; rfl
          rw [hh] at hO; rw [hh]; exact hO
attribute [irreducible] hpadS
end Go.Proofs.YtjieiijbgbkikaaDoor
end
section
/- What package chacha computes: contracts of its functions (word, left, Quarter, State, Round, Block), each equal to a Lean function on lists of numbers. -/
namespace Go.Proofs.YtjieiijbgbkikaaDoor
open Go Go.RowKit
set_option maxRecDepth 100000

def leftS (x n : Int) : Int := bits BinOp.or IntKind.u32 (x * 2 ^ n.toNat % 4294967296) (x / 2 ^ (32 - n).toNat)
theorem left_any (x n : Int) (w : World) (h0 : 0 ≤ n) (h1 : n ≤ 31) :
    Calls Tryd.prog 110 #[.int .u32 x, .int .u64 n] w fun e w' => e = .returned (.int .u32 (leftS x n)) ∧ w = w' := by
  go_enter Tryd.func110, Tryd.ntmps110
  go_wp2
  go_ret
  exact ⟨rfl, rfl⟩

def wordS (x0 x1 x2 x3 : Int) : Int := bits BinOp.or .u32 (bits .or .u32 (bits .or .u32 x0 (x1 * 256)) (x2 * 65536)) (x3 * 16777216)
theorem word_any (b off len cap : Nat) (x0 x1 x2 x3 : Int) (w : World) (h4 : 4 ≤ len) (h0 : w.cell? ⟨b, off, none⟩ = some (.int .u8 x0)) (h1 : w.cell? ⟨b, off+1, none⟩ = some (.int .u8 x1))
    (h2 : w.cell? ⟨b, off+2, none⟩ = some (.int .u8 x2)) (h3 : w.cell? ⟨b, off+3, none⟩ = some (.int .u8 x3))
    (b0 : 0 ≤ x0 ∧ x0 < 256) (b1 : 0 ≤ x1 ∧ x1 < 256) (b2 : 0 ≤ x2 ∧ x2 < 256) (b3 : 0 ≤ x3 ∧ x3 < 256) :
    Calls Tryd.prog 105 #[.slice (some ⟨b, off, none⟩) len cap] w fun e w' => e = .returned (.int .u32 (wordS x0 x1 x2 x3)) ∧ Quiet w w' := by
  obtain ⟨b00, b01⟩ := b0; obtain ⟨b10, b11⟩ := b1; obtain ⟨b20, b21⟩ := b2; obtain ⟨b30, b31⟩ := b3
  go_enter Tryd.func105, Tryd.ntmps105
  go_wp2
  go_quiet (fail)
  go_wp2
  go_ret
  exact ⟨rfl, _, rfl⟩
/-- The four bytes at i of a list, as a word. -/
def wordAt (l : List Int) (i : Nat) : Int := wordS (nth l i) (nth l (i+1)) (nth l (i+2)) (nth l (i+3))
theorem word_row (w : World) (b i len cap : Nat) (l : List Int) (T : TypeId) (fr : Nat × Nat) (hb : w.heap[b]? = some (.cells (ints .u8 l) T fr)) (hl : i + 4 ≤ l.length) (hB : Bd 256 l) (h4 : 4 ≤ len) :
    Calls Tryd.prog 105 #[.slice (some ⟨b, i, none⟩) len cap] w fun e w' => e = .returned (.int .u32 (wordAt l i)) ∧ Quiet w w' :=
  word_any b i len cap _ _ _ _ w h4 (cell_ints hb (by omega)) (cell_ints hb (by omega)) (cell_ints hb (by omega)) (cell_ints hb (by omega)) (hB _) (hB _) (hB _) (hB _)

def add32 (a b : Int) : Int := (a + b) % 4294967296
def xor32 (a b : Int) : Int := bits .xor .u32 a b
structure Q4 where
  a : Int
  b : Int
  c : Int
  d : Int
def quarterS (a b c d : Int) : Q4 :=
  let a1 := add32 a b
  let d1 := leftS (xor32 d a1) 16
  let c1 := add32 c d1
  let b1 := leftS (xor32 b c1) 12
  let a2 := add32 a1 b1
  let d2 := leftS (xor32 d1 a2) 8
  let c2 := add32 c1 d2
  let b2 := leftS (xor32 b1 c2) 7
  ⟨a2, b2, c2, d2⟩
theorem quarter_any (a b c d : Int) (w : World) :
    Calls Tryd.prog 106 #[.int .u32 a, .int .u32 b, .int .u32 c, .int .u32 d] w fun e w' =>
      e = .returned (.tuple #[.int .u32 (quarterS a b c d).a, .int .u32 (quarterS a b c d).b, .int .u32 (quarterS a b c d).c, .int .u32 (quarterS a b c d).d]) ∧ w = w' := by
  go_enter Tryd.func106, Tryd.ntmps106
  go_wp2_with (go_at_call 110; refine (left_any _ _ _ (by omega) (by omega)).mono ?_; rintro e w' ⟨rfl, rfl⟩)
  refine bodyPost_ret (v := .tuple #[_, _, _, _]) (by simp [results, Tryd.results106, go_sem]; simp [quarterS, add32, xor32]) rfl ⟨rfl, rfl⟩

def init4 : List Int := [1634760805, 857760878, 2036477234, 1797285236, 0,0,0,0,0,0,0,0,0,0,0,0]
def stKey (key : List Int) : Nat → List Int
  | 0 => init4
  | k + 1 => (stKey key k).set (4 + k) (wordAt key (4 * k))
theorem stKey_len (key : List Int) (k : Nat) : (stKey key k).length = 16 := by induction k <;> simp [stKey, init4, *]
def stNon (key nonce : List Int) (c : Int) : Nat → List Int
  | 0 => (stKey key 8).set 12 c
  | k + 1 => (stNon key nonce c k).set (13 + k) (wordAt nonce (4 * k))
theorem stNon_len (key nonce : List Int) (c : Int) (k : Nat) : (stNon key nonce c k).length = 16 := by induction k <;> simp [stNon, stKey_len, *]
/-- The sixteen words at the begin. -/
def stateS (key : List Int) (c : Int) (nonce : List Int) : List Int := stNon key nonce c 3
theorem stateS_len (key : List Int) (c : Int) (nonce : List Int) : (stateS key c nonce).length = 16 := stNon_len _ _ _ _

set_option maxHeartbeats 2000000 in
theorem state_any (key nonce : List Int) (hk : key.length = 32) (hn : nonce.length = 12) (hkB : Bd 256 key) (hnB : Bd 256 nonce) (c : Int) (w : World) :
    Calls Tryd.prog 98 #[.agg (ints .u8 key), .int .u32 c, .agg (ints .u8 nonce)] w fun e w' => e = .returned (.agg (ints .u32 (stateS key c nonce))) ∧ Below w.heap.size w w' := by
  go_enter Tryd.func98, Tryd.ntmps98
  go_wp2
  go_loopw [8, 11] (fun _ i wr => ∃ k n : Nat, k ≤ 8 ∧ i = .int .i64 k ∧ wr = ((((w.alloc (.cells (ints .u8 key) 31)).alloc (.cells (ints .u8 nonce) 62)).alloc (.cells (ints .u32 [0,0,0,0,0,0,0,0,0,0,0,0,0,0,0,0]) 138)).alloc (.cells (ints .u32 (stKey key k)) 138)).drewN n) (fun _ i _ => 8 - (intOf i).toNat)
  case atStart => exact ⟨0, 0, by omega, rfl, rfl⟩
  case round =>
    obtain ⟨k, n, hk8, rfl, rfl⟩ := hrel
    have hlen := stKey_len key k
    by_cases hlt : k < 8
    · have i1 : (0:Int) ≤ 4 * ↑k := by omega
      have i2 : 4 * (k:Int) ≤ 32 := by omega
      have i3 : (4:Int) + ↑k < 16 := by omega
      have i4 : (0:Int) ≤ (4:Int) + ↑k := by omega
      have hc := get_ints_lt .u32 (stKey key k) (4 + k) (by omega)
      go_wp2_with (go_at_call 105; refine (word_row _ _ (4*k) _ _ key 31 (0,0) (by exact blk4_0 _ _ _ _ _) (by omega) hkB (by omega)).mono ?_; rintro e w' ⟨rfl, n2, rfl⟩)
      go_roundw
      case rel => exact ⟨k + 1, _, by omega, by go_num, rfl⟩
      case measure => simp [intOf]; omega
    · have hk' := Lib.hid (show k = 8 by omega)
      have hc := get_ints_lt .u32 (stKey key k) 12 (by omega)
      clear hk8
      go_wp2
      go_loopw [9, 24] (fun _ i wr => ∃ k n : Nat, k ≤ 3 ∧ i = .int .i64 k ∧ wr = ((((w.alloc (.cells (ints .u8 key) 31)).alloc (.cells (ints .u8 nonce) 62)).alloc (.cells (ints .u32 [0,0,0,0,0,0,0,0,0,0,0,0,0,0,0,0]) 138)).alloc (.cells (ints .u32 (stNon key nonce c k)) 138)).drewN n) (fun _ i _ => 3 - (intOf i).toNat)
      case atStart => exact ⟨0, n, by omega, rfl, by rw [hk'.out]; rfl⟩
      case round =>
        clear hc hk' hlen
        obtain ⟨k, m, hk3, rfl, rfl⟩ := hrel
        have hlen := stNon_len key nonce c k
        by_cases hlt3 : k < 3
        · have i1 : (0:Int) ≤ 4 * ↑k := by omega
          have i2 : 4 * (k:Int) ≤ 12 := by omega
          have i3 : (13:Int) + ↑k < 16 := by omega
          have i4 : (0:Int) ≤ (13:Int) + ↑k := by omega
          have hc := get_ints_lt .u32 (stNon key nonce c k) (13 + k) (by omega)
          go_wp2_with (go_at_call 105; refine (word_row _ _ (4*k) _ _ nonce 62 (0,0) (by exact blk4_1 _ _ _ _ _) (by omega) hnB (by omega)).mono ?_; rintro e w' ⟨rfl, n2, rfl⟩)
          go_roundw
          case rel => exact ⟨k + 1, _, by omega, by go_num, rfl⟩
          case measure => simp [intOf]; omega
        · obtain rfl : k = 3 := by omega
          clear hk3 hlt3
          go_wp2_with (first | (refine ld_ints rfl rfl rfl (by exact blk4_3 _ _ _ _ _) Tryd.underlying138 (by kernel_rfl) hlen ?_) | (refine st_row (n := 16) rfl rfl rfl rfl (by exact blk4_2 _ _ _ _ _) (by kernel_rfl) rfl (by rw [size_ints, hlen]) (oneCell_ints _ _) ?_))
          refine end_row (n := 16) rfl rfl (setRow_heap _ _ _ _ 138 (0,0) (by exact blk4_2 _ _ _ _ _)) Tryd.underlying138 rfl (by kernel_rfl) (by rw [size_ints, hlen]) rfl ⟨rfl, belowRow (below_drewN ?_ _) (by omega) _⟩
          exact ((((Below.refl _ _).alloc (Nat.le_refl _) _).alloc (by simp) _).alloc (by simp; omega) _).alloc (by simp; omega) _
end Go.Proofs.YtjieiijbgbkikaaDoor
end
section
/- What chacha.Round computes: eight quarters over the columns of the package's table. -/
namespace Go.Proofs.YtjieiijbgbkikaaDoor
open Go Go.RowKit
set_option maxRecDepth 100000

/-- The package's table of columns, one number behind the other. -/
def colsF : List Int := [0, 4, 8, 12, 1, 5, 9, 13, 2, 6, 10, 14, 3, 7, 11, 15, 0, 5, 10, 15, 1, 6, 11, 12, 2, 7, 8, 13, 3, 4, 9, 14]
theorem colsF_bd : Bd 16 colsF := .of_mem (by decide) (by decide)
/-- The variable chacha.columns reads as its text says. -/
def Cols (w : World) : Prop := ∃ T fr, w.heap[0]? = some (.cells (ints .i64 colsF) T fr)
def colIx (k j : Nat) : Nat := (nth colsF (k * 4 + j)).toNat
theorem colIx_lt (k j : Nat) : colIx k j < 16 := by have := colsF_bd (k * 4 + j); unfold colIx; omega
def colStep (s : List Int) (k : Nat) : List Int :=
  let r := quarterS (nth s (colIx k 0)) (nth s (colIx k 1)) (nth s (colIx k 2)) (nth s (colIx k 3))
  (((s.set (colIx k 0) r.a).set (colIx k 1) r.b).set (colIx k 2) r.c).set (colIx k 3) r.d
theorem colStep_len (s : List Int) (k : Nat) : (colStep s k).length = s.length := by simp [colStep]
def roundTo (s : List Int) : Nat → List Int
  | 0 => s
  | k + 1 => colStep (roundTo s k) k
theorem roundTo_len (s : List Int) (k : Nat) : (roundTo s k).length = s.length := by induction k <;> simp [roundTo, colStep_len, *]
def roundS (s : List Int) : List Int := roundTo s 8
theorem roundS_len (s : List Int) : (roundS s).length = s.length := roundTo_len s 8

theorem q_get (k j : Nat) (hj : j < 4) : nth ((colsF.drop (k * 4)).take 4) j = (colIx k j : Nat) := by
  have h0 := colsF_bd (k * 4 + j)
  unfold colIx
  rw [Int.toNat_of_nonneg h0.1, nth_take hj, nth_drop]
theorem q_len (k : Nat) (hk : k < 8) : ((colsF.drop (k * 4)).take 4).length = 4 := by simp [colsF]; omega
theorem q_cell (k j : Nat) (hk : k < 8) (hj : j < 4) : (ints .i64 ((colsF.drop (k * 4)).take 4))[j]? = some (.int .i64 (colIx k j : Nat)) := by
  rw [get_ints_lt _ _ _ (by rw [q_len k hk]; exact hj), q_get k j hj]

attribute [local go_sem] cell?_eq frozen?_eq heap_setCell_eq heap_setCell_ne
set_option maxHeartbeats 2000000 in
theorem round_any (s : List Int) (hs : s.length = 16) (w : World) (hc : Cols w) (hw : 0 < w.heap.size) :
    Calls Tryd.prog 99 #[.agg (ints .u32 s)] w fun e w' => e = .returned (.agg (ints .u32 (roundS s))) ∧ Below w.heap.size w w' := by
  obtain ⟨T0, fr0, hcol⟩ := hc
  go_enter Tryd.func99, Tryd.ntmps99
  go_wp2_with (refine ld_row (n := 32) rfl rfl rfl (by exact (heap_alloc_past _ _ _ (by simp; try omega)).trans ((heap_alloc_past _ _ _ hw).trans hcol)) Tryd.underlying153 rfl (by kernel_rfl) rfl ?_)
  go_loopw [4, 6] (fun _ i wr => ∃ k : Nat, k ≤ 8 ∧ i = .int .i64 k ∧ wr.heap[w.heap.size]? = some (.cells (ints .u32 (roundTo s k)) 138 (0, 0)) ∧
      wr.heap[w.heap.size + 1]? = some (.cells (ints .u32 [0,0,0,0,0,0,0,0,0,0,0,0,0,0,0,0]) 138 (0, 0)) ∧ Below w.heap.size w wr ∧ w.heap.size + 2 ≤ wr.heap.size) (fun _ i _ => 8 - (intOf i).toNat)
  case atStart => exact ⟨0, by omega, rfl, by exact blk2_0 _ _ _, by exact blk2_1 _ _ _, ((Below.refl _ _).alloc (Nat.le_refl _) _).alloc (by simp) _, by simp⟩
  case round =>
    obtain ⟨k, hk8, rfl, hS, hO, hB, hZ⟩ := hrel
    have hlen := roundTo_len s k
    by_cases hlt : k < 8
    · have c0 := q_cell k 0 hlt (by omega)
      have c1 := q_cell k 1 hlt (by omega)
      have c2 := q_cell k 2 hlt (by omega)
      have c3 := q_cell k 3 hlt (by omega)
      have i0 := colIx_lt k 0
      have i1 := colIx_lt k 1
      have i2 := colIx_lt k 2
      have i3 := colIx_lt k 3
      have j0 : (colIx k 0 : Int) < 16 := by omega
      have j1 : (colIx k 1 : Int) < 16 := by omega
      have j2 : (colIx k 2 : Int) < 16 := by omega
      have j3 : (colIx k 3 : Int) < 16 := by omega
      have hql := Lib.hid (q_len k hlt)
      have hz1 : w.heap.size < wr.heap.size := by omega
      have hz2 : w.heap.size + 1 < wr.heap.size := by omega
      have hix := fun wx => run_index_rows (P := Tryd.prog) (k := .i64) (T := 153) Tryd.underlying153 Tryd.underlying152 (by kernel_rfl) colsF k hlt wx
      go_wp2_with (refine st_row (n := 4) rfl rfl rfl rfl (by exact heap_alloc_at _ _ _ rfl) (by kernel_rfl) rfl (by rw [size_ints]; exact hql.out) (oneCell_ints _ _) ?_)
      refine wp_region_E [24] (S1 (fun w' => w'.heap[wr.heap.size]? = some (.cells (ints .i64 ((colsF.drop (k * 4)).take 4)) 152 (0, 0))) (fun w' => w'.heap[w.heap.size]? = some (.cells (ints .u32 (roundTo s k)) 138 (0, 0)))) (by kernel_rfl) ?_
      have hS1 : S1 (fun w' => w'.heap[wr.heap.size]? = some (.cells (ints .i64 ((colsF.drop (k * 4)).take 4)) 152 (0, 0))) (fun w' => w'.heap[w.heap.size]? = some (.cells (ints .u32 (roundTo s k)) 138 (0, 0))) [false] (((wr.alloc (.cells (ints .i64 ((colsF.drop (k * 4)).take 4)) 152))).drew) := by
        refine ⟨by exact heap_alloc_at _ _ _ rfl, fun _ => by exact (heap_alloc_past _ _ _ hz1).trans hS⟩
      try simp only [Act.put, List.setIfInBounds_toArray, List.set_cons_zero, List.set_cons_succ]
      rw [setRow_alloc_at _ _ _ _ _ rfl]
      refine takeA (i := 0) (v := ?_) rfl (by kernel_rfl) (fun _ _ _ h => h) rfl (by exact hS1) (fun wx hx => ?_) ?_
      rotate_left
      · clear hx; go_simp; try with_reducible rfl
      try simp only [Act.put, List.setIfInBounds_toArray, List.set_cons_zero, List.set_cons_succ]
      refine takeA (i := 1) (v := ?_) rfl (by kernel_rfl) (fun _ _ _ h => h) rfl (by exact hS1) (fun wx hx => ?_) ?_
      rotate_left
      · (try dsimp only at hx); go_simp; try with_reducible rfl
      try simp only [Act.put, List.setIfInBounds_toArray, List.set_cons_zero, List.set_cons_succ]
      refine takeA (i := 2) (v := ?_) rfl (by kernel_rfl) (fun _ _ _ h => h) rfl (by exact hS1) (fun wx hx => ?_) ?_
      rotate_left
      · clear hx; go_simp; try with_reducible rfl
      try simp only [Act.put, List.setIfInBounds_toArray, List.set_cons_zero, List.set_cons_succ]
      refine takeA (i := 3) (v := ?_) rfl (by kernel_rfl) (fun _ _ _ h => h) rfl (by exact hS1) (fun wx hx => ?_) ?_
      rotate_left
      · (try dsimp only at hx); go_simp; try with_reducible rfl
      try simp only [Act.put, List.setIfInBounds_toArray, List.set_cons_zero, List.set_cons_succ]
      refine takeA (i := 4) (v := ?_) rfl (by kernel_rfl) (fun _ _ _ h => h) rfl (by exact hS1) (fun wx hx => ?_) ?_
      rotate_left
      · clear hx; go_simp; try with_reducible rfl
      try simp only [Act.put, List.setIfInBounds_toArray, List.set_cons_zero, List.set_cons_succ]
      refine takeA (i := 5) (v := ?_) rfl (by kernel_rfl) (fun _ _ _ h => h) rfl (by exact hS1) (fun wx hx => ?_) ?_
      rotate_left
      · (try dsimp only at hx); go_simp; try with_reducible rfl
      try simp only [Act.put, List.setIfInBounds_toArray, List.set_cons_zero, List.set_cons_succ]
      refine takeA (i := 6) (v := ?_) rfl (by kernel_rfl) (fun _ _ _ h => h) rfl (by exact hS1) (fun wx hx => ?_) ?_
      rotate_left
      · clear hx; go_simp; try with_reducible rfl
      try simp only [Act.put, List.setIfInBounds_toArray, List.set_cons_zero, List.set_cons_succ]
      refine takeA (i := 7) (v := ?_) rfl (by kernel_rfl) (fun _ _ _ h => h) rfl (by exact hS1) (fun wx hx => ?_) ?_
      rotate_left
      · (try dsimp only at hx); go_simp; try with_reducible rfl
      try simp only [Act.put, List.setIfInBounds_toArray, List.set_cons_zero, List.set_cons_succ]
      refine takeA (i := 8) (v := ?_) rfl (by kernel_rfl) (fun _ _ _ h => h) rfl (by exact hS1) (fun wx hx => ?_) ?_
      rotate_left
      · clear hx; go_simp; try with_reducible rfl
      try simp only [Act.put, List.setIfInBounds_toArray, List.set_cons_zero, List.set_cons_succ]
      refine takeA (i := 9) (v := ?_) rfl (by kernel_rfl) (fun _ _ _ h => h) rfl (by exact hS1) (fun wx hx => ?_) ?_
      rotate_left
      · (try dsimp only at hx); go_simp; try with_reducible rfl
      try simp only [Act.put, List.setIfInBounds_toArray, List.set_cons_zero, List.set_cons_succ]
      refine takeA (i := 10) (v := ?_) rfl (by kernel_rfl) (fun _ _ _ h => h) rfl (by exact hS1) (fun wx hx => ?_) ?_
      rotate_left
      · clear hx; go_simp; try with_reducible rfl
      try simp only [Act.put, List.setIfInBounds_toArray, List.set_cons_zero, List.set_cons_succ]
      refine takeB (i := 11) (v := ?_) rfl (by kernel_rfl) (fun _ _ _ h => h) rfl (by kernel_rfl) (by exact hS1) (fun wx hx hb => ?_) ?_
      rotate_left
      · (try dsimp only at hx hb); go_simp; try with_reducible rfl
      try simp only [Act.put, List.setIfInBounds_toArray, List.set_cons_zero, List.set_cons_succ]
      refine takeA (i := 12) (v := ?_) rfl (by kernel_rfl) (fun _ _ _ h => h) rfl (by exact hS1) (fun wx hx => ?_) ?_
      rotate_left
      · clear hx; go_simp; try with_reducible rfl
      try simp only [Act.put, List.setIfInBounds_toArray, List.set_cons_zero, List.set_cons_succ]
      refine takeA (i := 13) (v := ?_) rfl (by kernel_rfl) (fun _ _ _ h => h) rfl (by exact hS1) (fun wx hx => ?_) ?_
      rotate_left
      · (try dsimp only at hx); go_simp; try with_reducible rfl
      try simp only [Act.put, List.setIfInBounds_toArray, List.set_cons_zero, List.set_cons_succ]
      refine takeA (i := 14) (v := ?_) rfl (by kernel_rfl) (fun _ _ _ h => h) rfl (by exact hS1) (fun wx hx => ?_) ?_
      rotate_left
      · clear hx; go_simp; try with_reducible rfl
      try simp only [Act.put, List.setIfInBounds_toArray, List.set_cons_zero, List.set_cons_succ]
      refine takeB (i := 15) (v := ?_) rfl (by kernel_rfl) (fun _ _ _ h => h) rfl (by kernel_rfl) (by exact hS1) (fun wx hx hb => ?_) ?_
      rotate_left
      · (try dsimp only at hx hb); go_simp; try with_reducible rfl
      try simp only [Act.put, List.setIfInBounds_toArray, List.set_cons_zero, List.set_cons_succ]
      refine takeA (i := 16) (v := ?_) rfl (by kernel_rfl) (fun _ _ _ h => h) rfl (by exact hS1) (fun wx hx => ?_) ?_
      rotate_left
      · clear hx; go_simp; try with_reducible rfl
      try simp only [Act.put, List.setIfInBounds_toArray, List.set_cons_zero, List.set_cons_succ]
      refine takeA (i := 17) (v := ?_) rfl (by kernel_rfl) (fun _ _ _ h => h) rfl (by exact hS1) (fun wx hx => ?_) ?_
      rotate_left
      · (try dsimp only at hx); go_simp; try with_reducible rfl
      try simp only [Act.put, List.setIfInBounds_toArray, List.set_cons_zero, List.set_cons_succ]
      refine takeA (i := 18) (v := ?_) rfl (by kernel_rfl) (fun _ _ _ h => h) rfl (by exact hS1) (fun wx hx => ?_) ?_
      rotate_left
      · clear hx; go_simp; try with_reducible rfl
      try simp only [Act.put, List.setIfInBounds_toArray, List.set_cons_zero, List.set_cons_succ]
      refine takeB (i := 19) (v := ?_) rfl (by kernel_rfl) (fun _ _ _ h => h) rfl (by kernel_rfl) (by exact hS1) (fun wx hx hb => ?_) ?_
      rotate_left
      · (try dsimp only at hx hb); go_simp; try with_reducible rfl
      try simp only [Act.put, List.setIfInBounds_toArray, List.set_cons_zero, List.set_cons_succ]
      refine takeA (i := 20) (v := ?_) rfl (by kernel_rfl) (fun _ _ _ h => h) rfl (by exact hS1) (fun wx hx => ?_) ?_
      rotate_left
      · clear hx; go_simp; try with_reducible rfl
      try simp only [Act.put, List.setIfInBounds_toArray, List.set_cons_zero, List.set_cons_succ]
      refine takeA (i := 21) (v := ?_) rfl (by kernel_rfl) (fun _ _ _ h => h) rfl (by exact hS1) (fun wx hx => ?_) ?_
      rotate_left
      · (try dsimp only at hx); go_simp; try with_reducible rfl
      try simp only [Act.put, List.setIfInBounds_toArray, List.set_cons_zero, List.set_cons_succ]
      refine takeA (i := 22) (v := ?_) rfl (by kernel_rfl) (fun _ _ _ h => h) rfl (by exact hS1) (fun wx hx => ?_) ?_
      rotate_left
      · clear hx; go_simp; try with_reducible rfl
      try simp only [Act.put, List.setIfInBounds_toArray, List.set_cons_zero, List.set_cons_succ]
      refine takeB (i := 23) (v := ?_) rfl (by kernel_rfl) (fun _ _ _ h => h) rfl (by kernel_rfl) (by exact hS1) (fun wx hx hb => ?_) ?_
      rotate_left
      · (try dsimp only at hx hb); go_simp; try with_reducible rfl
      try simp only [Act.put, List.setIfInBounds_toArray, List.set_cons_zero, List.set_cons_succ]
      refine runOne (i := 24) (by kernel_rfl) rfl rfl ?_
      go_simp
      refine (quarter_any _ _ _ _ _).mono ?_
      rintro e w' ⟨rfl, rfl⟩
      obtain ⟨r, hr⟩ : ∃ r, r = quarterS (nth (roundTo s k) (colIx k 0)) (nth (roundTo s k) (colIx k 1)) (nth (roundTo s k) (colIx k 2)) (nth (roundTo s k) (colIx k 3)) := ⟨_, rfl⟩
      rw [← hr]
      have Hr := Lib.hid hr; clear hr
      have hS2 : S1 (fun w' => w'.heap[wr.heap.size]? = some (.cells (ints .i64 ((colsF.drop (k * 4)).take 4)) 152 (0, 0))) (fun w' => w'.heap[w.heap.size]? = some (.cells (ints .u32 (roundTo s k)) 138 (0, 0))) [true] (((wr.alloc (.cells (ints .i64 ((colsF.drop (k * 4)).take 4)) 152))).drew) :=
        ⟨hS1.1, fun h => by cases h⟩
      refine ⟨by exact hS2, ?_⟩
      try simp only [Act.put, List.setIfInBounds_toArray, List.set_cons_zero, List.set_cons_succ]
      refine takeA (i := 25) (v := ?_) rfl (by kernel_rfl) (fun _ _ _ h => h) rfl (by exact hS2) (fun wx hx => ?_) ?_
      rotate_left
      · clear hx; go_simp; try with_reducible rfl
      try simp only [Act.put, List.setIfInBounds_toArray, List.set_cons_zero, List.set_cons_succ]
      refine takeA (i := 26) (v := ?_) rfl (by kernel_rfl) (fun _ _ _ h => h) rfl (by exact hS2) (fun wx hx => ?_) ?_
      rotate_left
      · clear hx; go_simp; try with_reducible rfl
      try simp only [Act.put, List.setIfInBounds_toArray, List.set_cons_zero, List.set_cons_succ]
      refine takeA (i := 27) (v := ?_) rfl (by kernel_rfl) (fun _ _ _ h => h) rfl (by exact hS2) (fun wx hx => ?_) ?_
      rotate_left
      · clear hx; go_simp; try with_reducible rfl
      try simp only [Act.put, List.setIfInBounds_toArray, List.set_cons_zero, List.set_cons_succ]
      refine takeA (i := 28) (v := ?_) rfl (by kernel_rfl) (fun _ _ _ h => h) rfl (by exact hS2) (fun wx hx => ?_) ?_
      rotate_left
      · clear hx; go_simp; try with_reducible rfl
      try simp only [Act.put, List.setIfInBounds_toArray, List.set_cons_zero, List.set_cons_succ]
      refine takeA (i := 29) (v := ?_) rfl (by kernel_rfl) (fun _ _ _ h => h) rfl (by exact hS2) (fun wx hx => ?_) ?_
      rotate_left
      · clear hx; go_simp; try with_reducible rfl
      try simp only [Act.put, List.setIfInBounds_toArray, List.set_cons_zero, List.set_cons_succ]
      refine takeA (i := 30) (v := ?_) rfl (by kernel_rfl) (fun _ _ _ h => h) rfl (by exact hS2) (fun wx hx => ?_) ?_
      rotate_left
      · clear hx; go_simp; try with_reducible rfl
      try simp only [Act.put, List.setIfInBounds_toArray, List.set_cons_zero, List.set_cons_succ]
      have q16 : ∀ j, colIx k j < (roundTo s k).length := fun j => by have := colIx_lt k j; omega
      have hA : ∀ (w' : World) (c : Array Value), w'.heap[wr.heap.size]? = some (.cells (ints .i64 ((colsF.drop (k * 4)).take 4)) 152 (0, 0)) → S1 (fun w' => w'.heap[wr.heap.size]? = some (.cells (ints .i64 ((colsF.drop (k * 4)).take 4)) 152 (0, 0))) (fun w' => w'.heap[w.heap.size]? = some (.cells (ints .u32 (roundTo s k)) 138 (0, 0))) [true] (w'.setRow w.heap.size c) :=
        fun w' c h => ⟨(heap_setRow_ne _ _ _ _ (by omega)).trans h, fun h => by cases h⟩
      have hL : (((wr.alloc (.cells (ints .i64 ((colsF.drop (k * 4)).take 4)) 152))).drew).heap[w.heap.size]? = some (.cells (ints .u32 (roundTo s k)) 138 (0, 0)) := hS1.2 rfl
      have hQ0 : (((wr.alloc (.cells (ints .i64 ((colsF.drop (k * 4)).take 4)) 152))).drew).heap[wr.heap.size]? = some (.cells (ints .i64 ((colsF.drop (k * 4)).take 4)) 152 (0, 0)) := hS1.1
      have hOW : (((wr.alloc (.cells (ints .i64 ((colsF.drop (k * 4)).take 4)) 152))).drew).heap[w.heap.size + 1]? = some (.cells (ints .u32 [0,0,0,0,0,0,0,0,0,0,0,0,0,0,0,0]) 138 (0, 0)) := by exact (heap_alloc_past _ _ _ hz2).trans hO
      have hBW : Below w.heap.size w (((wr.alloc (.cells (ints .i64 ((colsF.drop (k * 4)).take 4)) 152))).drew) := (hB.alloc (by omega) _).drew
      have hZW : w.heap.size + 2 ≤ (((wr.alloc (.cells (ints .i64 ((colsF.drop (k * 4)).take 4)) 152))).drew).heap.size := by simp; omega
      generalize (((wr.alloc (.cells (ints .i64 ((colsF.drop (k * 4)).take 4)) 152))).drew) = W at *
      refine runOne (i := 31) (by kernel_rfl) rfl rfl (wp_st_int rfl rfl rfl (by kernel_rfl) (l := (roundTo s k)) (t := 138) (by exact hL) (by simpa using q16 0) ?_)
      refine ⟨by exact hA _ _ hQ0, ?_⟩
      try simp only [Act.put, List.setIfInBounds_toArray, List.set_cons_zero, List.set_cons_succ]
      have hS3 := hA W (ints .u32 (List.set (roundTo s k) (colIx k 0) r.a)) hQ0
      refine takeA (i := 32) (v := ?_) rfl (by kernel_rfl) (fun _ _ _ h => h) rfl (by exact hS3) (fun wx hx => ?_) ?_
      rotate_left
      · clear hx; go_simp; try with_reducible rfl
      try simp only [Act.put, List.setIfInBounds_toArray, List.set_cons_zero, List.set_cons_succ]
      clear hS3
      refine runOne (i := 33) (by kernel_rfl) rfl rfl (wp_st_int rfl rfl rfl (by kernel_rfl) (l := (List.set (roundTo s k) (colIx k 0) r.a)) (t := 138) (by exact setRow_heap _ _ _ _ _ _ hL) (by simpa using q16 1) ?_)
      rw [setRow_setRow]
      refine ⟨by exact hA _ _ hQ0, ?_⟩
      try simp only [Act.put, List.setIfInBounds_toArray, List.set_cons_zero, List.set_cons_succ]
      have hS3 := hA W (ints .u32 (List.set (List.set (roundTo s k) (colIx k 0) r.a) (colIx k 1) r.b)) hQ0
      refine takeA (i := 34) (v := ?_) rfl (by kernel_rfl) (fun _ _ _ h => h) rfl (by exact hS3) (fun wx hx => ?_) ?_
      rotate_left
      · clear hx; go_simp; try with_reducible rfl
      try simp only [Act.put, List.setIfInBounds_toArray, List.set_cons_zero, List.set_cons_succ]
      clear hS3
      refine runOne (i := 35) (by kernel_rfl) rfl rfl (wp_st_int rfl rfl rfl (by kernel_rfl) (l := (List.set (List.set (roundTo s k) (colIx k 0) r.a) (colIx k 1) r.b)) (t := 138) (by exact setRow_heap _ _ _ _ _ _ hL) (by simpa using q16 2) ?_)
      rw [setRow_setRow]
      refine ⟨by exact hA _ _ hQ0, ?_⟩
      try simp only [Act.put, List.setIfInBounds_toArray, List.set_cons_zero, List.set_cons_succ]
      have hS3 := hA W (ints .u32 (List.set (List.set (List.set (roundTo s k) (colIx k 0) r.a) (colIx k 1) r.b) (colIx k 2) r.c)) hQ0
      refine takeA (i := 36) (v := ?_) rfl (by kernel_rfl) (fun _ _ _ h => h) rfl (by exact hS3) (fun wx hx => ?_) ?_
      rotate_left
      · clear hx; go_simp; try with_reducible rfl
      try simp only [Act.put, List.setIfInBounds_toArray, List.set_cons_zero, List.set_cons_succ]
      clear hS3
      refine runOne (i := 37) (by kernel_rfl) rfl rfl (wp_st_int rfl rfl rfl (by kernel_rfl) (l := (List.set (List.set (List.set (roundTo s k) (colIx k 0) r.a) (colIx k 1) r.b) (colIx k 2) r.c)) (t := 138) (by exact setRow_heap _ _ _ _ _ _ hL) (by simpa using q16 3) ?_)
      rw [setRow_setRow]
      refine ⟨by exact hA _ _ hQ0, ?_⟩
      try simp only [Act.put, List.setIfInBounds_toArray, List.set_cons_zero, List.set_cons_succ]
      refine wpAnyE_done (by kernel_rfl) ?_ _
      have hS' := setRow_heap W w.heap.size _ (ints .u32 (roundTo s (k + 1))) _ _ hL
      have hO' := (setRow_other W w.heap.size (w.heap.size + 1) (ints .u32 (roundTo s (k + 1))) (by omega)).trans hOW
      have hB' := belowRow hBW (Nat.le_refl w.heap.size) (ints .u32 (roundTo s (k + 1)))
      have he := Lib.hid (show (((((roundTo s k).set (colIx k 0) r.a).set (colIx k 1) r.b).set (colIx k 2) r.c).set (colIx k 3) r.d) = roundTo s (k + 1) by rw [Hr.out]; rfl)
      rw [he.out]
      have hW : ∃ W', W' = W.setRow w.heap.size (ints .u32 (roundTo s (k + 1))) := ⟨_, rfl⟩
      obtain ⟨W', hW'⟩ := hW
      have hZ' : w.heap.size + 2 ≤ W'.heap.size := by rw [hW', size_setRow]; exact hZW
      rw [← hW'] at hS' hO' hB' ⊢
      clear hW' he Hr q16 hA hS1 hL hQ0 hOW hBW hZW hix hS hO hB hZ
      go_wp2
      go_roundw
      case rel => exact ⟨k + 1, by omega, by go_num, hS', hO', hB', hZ'⟩
      case measure => simp [intOf]; omega
    · have hk' := Lib.hid (show k = 8 by omega)
      go_wp2_with (first | (refine ld_ints rfl rfl rfl (by exact hS) Tryd.underlying138 (by kernel_rfl) (by rw [hlen, hs]) ?_) | (refine st_row (n := 16) rfl rfl rfl rfl (by exact hO) (by kernel_rfl) rfl (by rw [size_ints, hlen, hs]) (oneCell_ints _ _) ?_))
      refine end_row (n := 16) rfl rfl (setRow_heap _ _ _ _ 138 (0,0) (by exact hO)) Tryd.underlying138 rfl (by kernel_rfl) (by rw [size_ints, hlen, hs]) rfl ⟨?_, belowRow hB (by omega) _⟩
      rw [hk'.out]; rfl
attribute [irreducible] roundTo
end Go.Proofs.YtjieiijbgbkikaaDoor
end
