/- Lemmas of a proof over the given program, joined by wip/join.py: KPkMay KGuard KPkChk KApp KHeld KPkPut KPkWr. -/
import Derived.Test.YtjieiijbgbkikaaDoorJ01
import Derived.Test.YtjieiijbgbkikaaDoorJ02
import Derived.Maps.AppendAt
import Derived.OrdersHeld
import Derived.StillTail
import Derived.RegionTactic
set_option linter.unusedSimpArgs false
set_option linter.unusedVariables false
section
/- Package packet: what a field may be; Check. -/
namespace Go.Proofs.YtjieiijbgbkikaaDoor
open Go Go.RowKit
set_option maxRecDepth 100000
attribute [local go_sem] cell?_eq frozen?_eq heap_setCell_eq heap_setCell_ne

/-- What the fields of a packet are within. -/
structure PktOk (x : Pkt) : Prop where
  session : u64lim x.session
  epoch : 0 ≤ x.epoch ∧ x.epoch < 4294967296
  count : u64lim x.count
  random : x.random.length = 16
  mark : x.mark.length = 16
  randomB : Bd 256 x.random
  markB : Bd 256 x.mark
def mayS (n : Nat) (x : Pkt) (bl : Nat) : Bool :=
  match n with
  | 0 => decide (1 ≤ x.peer) && decide (x.peer ≤ 65536)
  | 1 => decide (1 ≤ x.session)
  | 2 => decide (1 ≤ x.epoch)
  | 3 => decide (1 ≤ x.count) && decide (x.count ≤ 1152921504606846976)
  | 4 => true
  | _ => decide (16 ≤ bl) && decide (bl ≤ 65552)
def zeroS (n : Nat) (x : Pkt) (bl : Nat) : Bool :=
  match n with
  | 0 => decide (x.peer = 0)
  | 1 => decide (x.session = 0)
  | 2 => decide (x.epoch = 0)
  | 3 => decide (x.count = 0)
  | 4 => decide (x.random = zerosL 16) && decide (x.mark = zerosL 16)
  | _ => decide (bl = 0)
theorem beq_dec (a b : Int) : (a == b) = decide (a = b) := by
  by_cases h : a = b
  · subst h; simp
  · simp [h]
theorem aextra_any (w : World) : Calls Tryd.prog 31 #[] w fun e w' => e = .returned (.int .i64 16) ∧ w' = w := by
  go_enter Tryd.func31, Tryd.ntmps31
  go_wp2
  go_ret
  exact ⟨rfl, rfl⟩
set_option maxHeartbeats 4000000 in
theorem may_any (n : Nat) (hn : n < 6) (x : Pkt) (p : Option Addr) (bl cap : Nat) (hbl : bl ≤ 1073741824) (w : World) :
    Calls Tryd.prog (mayF n) #[.agg (pktC x (.slice p bl cap))] w fun e w' => e = .returned (.bool (mayS n x bl)) ∧ Below w.heap.size w w' := by
  match n, hn with
  | 0, _ =>
    show Calls Tryd.prog 48 _ _ _
    unfold mayS
    by_cases h1 : 1 ≤ x.peer
    · have h1' : decide (1 ≤ x.peer) = true := by simpa using h1
      go_enter Tryd.func48, Tryd.ntmps48
      go_wp2_with (refine bx_abs rfl (ty := 27) rfl rfl ?_; intro W Q hQ hB hz _)
      go_ret
      exact ⟨by rw [h1']; rfl, hB⟩
    · have h1' : decide (1 ≤ x.peer) = false := by simpa using h1
      go_enter Tryd.func48, Tryd.ntmps48
      go_wp2_with (refine bx_abs rfl (ty := 27) rfl rfl ?_; intro W Q hQ hB hz _)
      go_ret
      exact ⟨by first | rfl | (rw [h1']; rfl), hB⟩
  | 1, _ =>
    show Calls Tryd.prog 53 _ _ _
    unfold mayS
    go_enter Tryd.func53, Tryd.ntmps53
    go_wp2_with (refine bx_abs rfl (ty := 27) rfl rfl ?_; intro W Q hQ hB hz _)
    go_ret
    exact ⟨rfl, hB⟩
  | 2, _ =>
    show Calls Tryd.prog 58 _ _ _
    unfold mayS
    go_enter Tryd.func58, Tryd.ntmps58
    go_wp2_with (refine bx_abs rfl (ty := 27) rfl rfl ?_; intro W Q hQ hB hz _)
    go_ret
    exact ⟨rfl, hB⟩
  | 3, _ =>
    show Calls Tryd.prog 62 _ _ _
    unfold mayS
    by_cases h1 : 1 ≤ x.count
    · have h1' : decide (1 ≤ x.count) = true := by simpa using h1
      go_enter Tryd.func62, Tryd.ntmps62
      go_wp2_with (refine bx_abs rfl (ty := 27) rfl rfl ?_; intro W Q hQ hB hz _)
      go_ret
      exact ⟨by rw [h1']; rfl, hB⟩
    · have h1' : decide (1 ≤ x.count) = false := by simpa using h1
      go_enter Tryd.func62, Tryd.ntmps62
      go_wp2_with (refine bx_abs rfl (ty := 27) rfl rfl ?_; intro W Q hQ hB hz _)
      go_ret
      exact ⟨by first | rfl | (rw [h1']; rfl), hB⟩
  | 4, _ =>
    show Calls Tryd.prog 66 _ _ _
    unfold mayS
    go_enter Tryd.func66, Tryd.ntmps66
    go_wp2_with (refine bx_abs rfl (ty := 27) rfl rfl ?_; intro W Q hQ hB hz _)
    go_ret
    exact ⟨rfl, hB⟩
  | 5, _ =>
    show Calls Tryd.prog 71 _ _ _
    unfold mayS
    by_cases h1 : 16 ≤ bl
    · have h1' : decide (16 ≤ bl) = true := by simpa using h1
      have g1 : (16 : Int) ≤ (bl : Int) := by omega
      have e1 : decide ((bl : Int) ≤ 65552) = decide (bl ≤ 65552) := decide_eq_decide.2 (by omega)
      have E1 := Lib.hid e1; clear e1
      go_enter Tryd.func71, Tryd.ntmps71
      go_wp2_with (refine bx_abs rfl (ty := 27) rfl rfl ?_; intro W Q hQ hB hz _)
      go_quiet ((go_at_call 31; exact Calls.quiet_of_same (aextra_any _)))
      go_wp2
      go_ret
      exact ⟨by rw [h1', ← E1.out]; rfl, below_drewN hB _⟩
    · have h1' : decide (16 ≤ bl) = false := by simpa using h1
      have g1 : decide ((16 : Int) ≤ (bl : Int)) = false := by simp; omega
      go_enter Tryd.func71, Tryd.ntmps71
      go_wp2_with (refine bx_abs rfl (ty := 27) rfl rfl ?_; intro W Q hQ hB hz _)
      go_quiet ((go_at_call 31; exact Calls.quiet_of_same (aextra_any _)))
      go_wp2
      go_ret
      exact ⟨by first | rfl | (rw [h1']; rfl), below_drewN hB _⟩
set_option maxHeartbeats 4000000 in
theorem zero_any (n : Nat) (hn : n < 6) (x : Pkt) (hx : PktOk x) (p : Option Addr) (bl cap : Nat) (hbl : bl ≤ 1073741824) (w : World) :
    Calls Tryd.prog (zeroF n) #[.agg (pktC x (.slice p bl cap))] w fun e w' => e = .returned (.bool (zeroS n x bl)) ∧ Below w.heap.size w w' := by
  match n, hn with
  | 0, _ =>
    show Calls Tryd.prog 49 _ _ _
    unfold zeroS
    go_enter Tryd.func49, Tryd.ntmps49
    go_wp2_with (refine bx_abs rfl (ty := 27) rfl rfl ?_; intro W Q hQ hB hz _)
    go_ret
    exact ⟨by rw [← beq_dec]; rfl, hB⟩
  | 1, _ =>
    show Calls Tryd.prog 54 _ _ _
    unfold zeroS
    go_enter Tryd.func54, Tryd.ntmps54
    go_wp2_with (refine bx_abs rfl (ty := 27) rfl rfl ?_; intro W Q hQ hB hz _)
    go_ret
    exact ⟨by rw [← beq_dec]; rfl, hB⟩
  | 2, _ =>
    show Calls Tryd.prog 59 _ _ _
    unfold zeroS
    go_enter Tryd.func59, Tryd.ntmps59
    go_wp2_with (refine bx_abs rfl (ty := 27) rfl rfl ?_; intro W Q hQ hB hz _)
    go_ret
    exact ⟨by rw [← beq_dec]; rfl, hB⟩
  | 3, _ =>
    show Calls Tryd.prog 63 _ _ _
    unfold zeroS
    go_enter Tryd.func63, Tryd.ntmps63
    go_wp2_with (refine bx_abs rfl (ty := 27) rfl rfl ?_; intro W Q hQ hB hz _)
    go_ret
    exact ⟨by rw [← beq_dec]; rfl, hB⟩
  | 4, _ =>
    show Calls Tryd.prog 67 _ _ _
    unfold zeroS
    have he : ∀ (l : List Int) (hl : l.length = 16) (wx : World), (Op.equalIn 10000 24 (.agg (ints .u8 l)) (.agg #[.int .u8 0, .int .u8 0, .int .u8 0, .int .u8 0, .int .u8 0, .int .u8 0, .int .u8 0, .int .u8 0, .int .u8 0, .int .u8 0, .int .u8 0, .int .u8 0, .int .u8 0, .int .u8 0, .int .u8 0, .int .u8 0])).run Tryd.prog wx = .ok (l == zerosL 16) wx := fun l hl wx =>
      run_equalIn_ints wx 9998 Tryd.underlying24 Tryd.underlying5 (by kernel_rfl) l (zerosL 16) hl (zerosL_len 16)
    have her := he x.random hx.random
    have hem := he x.mark hx.mark
    have hrl := hx.random
    have hml := hx.mark
    have hrow := @pktC_row_mark x (.slice p bl cap) hml
    clear he
    by_cases h1 : x.random = zerosL 16
    · have h1' : (x.random == zerosL 16) = true := beq_iff_eq.2 h1
      have H1 := Lib.hid h1; clear h1
      go_enter Tryd.func67, Tryd.ntmps67
      go_wp2_with (first | (refine bx_abs rfl (ty := 27) rfl rfl ?_; intro W Q hQ hB hz _) | (refine ld_seg rfl (ty := 24) (off := 5) (sz := 16) rfl rfl (by exact hQ) Tryd.underlying24 (by kernel_rfl) (by rw [pktC_size]; decide) ?_; rw [pktC_ext_random _ _ hrl]) | (refine ld_seg rfl (ty := 24) (off := 21) (sz := 16) rfl rfl (by exact hQ) Tryd.underlying24 (by kernel_rfl) (by rw [pktC_size]; decide) ?_; rw [pktC_ext_mark _ _ hml]))
      go_ret
      refine ⟨?_, hB⟩
      have hm : decide (x.mark = zerosL 16) = (x.mark == zerosL 16) := by rw [Bool.eq_iff_iff]; simp
      rw [hm, decide_eq_true H1.out]
      rfl
    · have h1' : (x.random == zerosL 16) = false := beq_eq_false_iff_ne.2 h1
      have H1 := Lib.hid h1; clear h1
      go_enter Tryd.func67, Tryd.ntmps67
      go_wp2_with (first | (refine bx_abs rfl (ty := 27) rfl rfl ?_; intro W Q hQ hB hz _) | (refine ld_seg rfl (ty := 24) (off := 5) (sz := 16) rfl rfl (by exact hQ) Tryd.underlying24 (by kernel_rfl) (by rw [pktC_size]; decide) ?_; rw [pktC_ext_random _ _ hrl]) | (refine ld_seg rfl (ty := 24) (off := 21) (sz := 16) rfl rfl (by exact hQ) Tryd.underlying24 (by kernel_rfl) (by rw [pktC_size]; decide) ?_; rw [pktC_ext_mark _ _ hml]))
      go_ret
      refine ⟨?_, hB⟩
      rw [decide_eq_false H1.out]
      rfl
  | 5, _ =>
    show Calls Tryd.prog 72 _ _ _
    unfold zeroS
    have e1 : ((bl : Int) == 0) = decide (bl = 0) := by rw [beq_dec]; exact decide_eq_decide.2 (by omega)
    have E1 := Lib.hid e1; clear e1
    go_enter Tryd.func72, Tryd.ntmps72
    go_wp2_with (refine bx_abs rfl (ty := 27) rfl rfl ?_; intro W Q hQ hB hz _)
    go_ret
    exact ⟨by rw [← E1.out]; rfl, hB⟩
end Go.Proofs.YtjieiijbgbkikaaDoor
end
section
/- Guarded operations; rows loaded. No program is used here. -/
namespace Go.Proofs.YtjieiijbgbkikaaDoor
open Go Go.RowKit
section
variable {P : Program} {ops : Array Oper} {rest : List Oper} {o : Oper} {a : Act} {w : World} {Q : Exit → Act → World → Prop}
theorem wpList_wanted (hw : Region.wanted o (yielded ops a.tmps) = true) (h : ∀ K : Act → World → Prop, (∀ a w, wpList P ops Q rest a w → K a w) → o.wp P a w K Q) : wpList P ops Q (o :: rest) a w :=
  wpList_step fun K hK => by simp only [hw, if_true]; exact h K hK
theorem run_loadAt_row {w : World} {g : Nat} {ty t : TypeId} {cs : Array Value} {fr : Nat × Nat} (hg : w.heap[g]? = some (.cells cs t fr)) {d : TypeDesc} (hu : P.underlying ty = some d) (hd : isRow d = true)
    {n : Nat} (hi : (P.info? ty).map (·.size) = some n) (hn : cs.size = n) :
    (Instr.loadAt ty (.pointer (some ⟨g, 0, none⟩))).run P w = .ok (.agg cs) w := by
  have hl : (loadCells ⟨g, 0, none⟩ cs.toList.length).run P w = .ok cs.toList.toArray w :=
    run_loadCells_list (P := P) w ⟨g, 0, none⟩ _ (fun j v hv => by
      have hadd : (⟨g, 0, none⟩ : Addr).add j = ⟨g, 0 + j, none⟩ := by unfold Addr.add; split <;> simp_all
      rw [hadd, cell_of_row w g _ cs t fr hg, Nat.zero_add]
      rwa [Array.getElem?_toList] at hv)
  cases hq : P.info? ty with
  | none => simp [hq] at hi
  | some i =>
    have hs : i.size = n := by simpa [hq] using hi
    have hagg : (isAgg ty).run P w = .ok true w := by
      unfold isAgg
      rw [Sem.run_bind, run_underlying hu w]
      cases d <;> first | rfl | simp [isRow] at hd
    rw [Array.length_toList, hn, Array.toArray_toList] at hl
    simp only [Instr.loadAt, Instr.sureAddr, loadVar, Sem.run_bind, Sem.run_pure, hagg, sizeOf, typeInfo, hq, hs, hl, Result.andThen_ok, if_true, program, Sem.run]
/-- A guarded load that is wanted. -/
theorem ld_g (hw : Region.wanted o (yielded ops a.tmps) = true) {ty : TypeId} {x : Operand} (ho : o.op = .load ty x) {p v : Value} (hx : a.eval x = p) (h1 : (Instr.loadAt ty p).run P w = .ok v w) (h : wpList P ops Q rest (a.put o.dst v) w) : wpList P ops Q (o :: rest) a w := by
  refine wpList_wanted hw fun K hK => ?_
  unfold Oper.wp execOp
  simp only [ho, hx, Sem.run_bind, h1, Result.andThen_ok]
  exact hK _ _ h
end
end Go.Proofs.YtjieiijbgbkikaaDoor
end
section
/- Package packet: Check. -/
namespace Go.Proofs.YtjieiijbgbkikaaDoor
open Go Go.RowKit
set_option maxRecDepth 100000
attribute [local go_sem] cell?_eq frozen?_eq heap_setCell_eq heap_setCell_ne

def partOk (x : Pkt) (bl k : Nat) : Bool := if decide ((k : Int) ∈ hasS x.kind) then mayS k x bl else zeroS k x bl
def okTo (x : Pkt) (bl : Nat) : Nat → Bool
  | 0 => true
  | k + 1 => okTo x bl k && partOk x bl k
/-- What Check answers. -/
def checkS (x : Pkt) (bl : Nat) : Int := if hasS x.kind = [] then 2 else if okTo x bl 6 then 0 else 2
theorem okTo_le {x : Pkt} {bl k j : Nat} (h : okTo x bl j = true) (hk : k < j) : partOk x bl k = true := by
  induction j with
  | zero => omega
  | succ j ih =>
    unfold okTo at h
    rw [Bool.and_eq_true] at h
    by_cases e : k = j
    · subst e; exact h.2
    · exact ih h.1 (by omega)
theorem checkS_no {x : Pkt} {bl k : Nat} (hk : k < 6) (h : partOk x bl k = false) : checkS x bl = 2 := by
  unfold checkS
  split
  · rfl
  · rw [if_neg]
    intro h1
    rw [okTo_le h1 hk] at h
    cases h
set_option maxHeartbeats 8000000 in
theorem check_any (x : Pkt) (hx : PktOk x) (p : Option Addr) (bl cap : Nat) (hbl : bl ≤ 1073741824) (w : World) :
    Calls Tryd.prog 11 #[.agg (pktC x (.slice p bl cap))] w fun e w' => e = .returned (.int .i64 (checkS x bl)) ∧ Below w.heap.size w w' := by
  go_enter Tryd.func11, Tryd.ntmps11
  go_wp2_with (first | (refine bx_abs rfl (ty := 27) rfl rfl ?_; intro W Q hQ hB hz hQz) | (go_at_call 27; fail))
  refine (has_any x.kind W).mono ?_
  rintro e w1 ⟨p1, rfl, hS1, hn1, hB1, _⟩
  have hQ1 := below_blk hB1 hQ
  have hBw1 := hB.trans (hB1.mono hB.size)
  have hl4 := hasS_len x.kind
  obtain ⟨L, hL⟩ : ∃ L, L = hasS x.kind := ⟨_, rfl⟩
  rw [← hL] at hS1 hn1 hl4 ⊢
  have HL := Lib.hid hL
  clear hL hB1 hQ hB
  have hq := fun wx => Lib.run_eql_slice_nil (P := Tryd.prog) wx 64 3 p1 L.length L.length 0 0 Tryd.underlying64
  cases p1 with
  | none =>
    have HN : Hid (checkS x bl = 2) := Lib.hid (by unfold checkS; rw [if_pos (by rw [← HL.out]; exact hn1.1 rfl)])
    clear hn1
    go_wp2
    go_ret
    exact ⟨by rw [HN.out]; rfl, hBw1⟩
  | some a1 =>
    have HN : Hid (¬ hasS x.kind = []) := Lib.hid (fun e => by have := hn1.2 (HL.out.trans e); cases this)
    clear hn1
    go_wp2
    clear hq
    go_loopw [12] (fun iv wr => ∃ k : Nat, k ≤ 6 ∧ iv = .int .i64 k ∧ Hid (okTo x bl k = true) ∧ wr.heap[Q]? = some (.cells (pktC x (.slice p bl cap)) 27 (0, 0)) ∧ SL .i64 wr (some a1) L ∧ Below w.heap.size w wr) (fun iv _ => 6 - (intOf iv).toNat)
    case atStart => exact ⟨0, by omega, rfl, Lib.hid rfl, hQ1, hS1, hBw1⟩
    case round =>
      clear hQ1 hS1 hBw1
      obtain ⟨k, hk, rfl, HK, hQ, hS, hB⟩ := hrel
      by_cases hlt : k < 6
      · have i1 : (k : Int) < 6 := by omega
        go_wp2_with (go_at_call 28; fail)
        refine (of_any k hlt wr).mono ?_
        rintro e w2 ⟨rfl, hB2⟩
        have hQ2 := below_blk hB2 hQ
        have hS2 := hS.below hB2
        have hBw2 := hB.trans (hB2.mono hB.size)
        clear hQ hS hB hB2
        have hfs : (ofV k).all (·.oneCell') = true := by simp [ofV, Value.oneCell']
        go_wp2_with (first | (refine al_abs rfl (T := 70) rfl (cs := #[.nilFunc, .nilFunc, .nilFunc, .nilFunc]) (by kernel_rfl) ?_; intro w3 X hX3 hB3 hX0 hXz) | (refine st_row (n := 4) (cs := ofV k) rfl (ty := 70) rfl rfl rfl (by exact hX3) (by kernel_rfl) rfl rfl hfs ?_) | (go_at_call 29; fail))
        have hX4 := setRow_heap w3 X _ (ofV k) _ _ hX3
        have hQ4 := (setRow_other w3 X Q (ofV k) (by have := (Array.getElem?_eq_some_iff.1 hQ2).1; omega)).trans (below_blk hB3 hQ2)
        have hS4 : SL .i64 (w3.setRow X (ofV k)) (some a1) L := (hS2.below hB3).kep ((Kep.refl (fun g => g = X) w3).setRow (.inl rfl) _) (fun a ha hn e => by have := hS2.lt hn a ha; omega)
        have hB4 := belowRow (hBw2.trans (hB3.mono hBw2.size)) (show w.heap.size ≤ X by have := hBw2.size; omega) (ofV k)
        generalize w3.setRow X (ofV k) = w4 at *
        clear hX3 hB3 hQ2 hS2 hBw2 hXz hX0
        refine (contains_any L (k : Int) (by omega) (some a1) L.length w4 hS4).mono ?_
        rintro e w5 ⟨rfl, rfl⟩
        have hpo : partOk x bl k = if decide ((k : Int) ∈ L) then mayS k x bl else zeroS k x bl := by rw [HL.out]; rfl
        have HPO := Lib.hid hpo; clear hpo
        have en0 := may_enter k hlt #[.agg (pktC x (.slice p bl cap))] w4
        have en1 := zero_enter k hlt #[.agg (pktC x (.slice p bl cap))] w4
        have f0 : (ofV k)[0]? = some (.func (.func (mayF k)) #[] #[]) := rfl
        have f1 : (ofV k)[1]? = some (.func (.func (zeroF k)) #[] #[]) := rfl
        have hlp := Lib.hid (run_loadAt_row (P := Tryd.prog) (ty := 27) hQ4 Tryd.underlying27 rfl (by kernel_rfl) (pktC_size _ _))
        cases hb : decide ((k : Int) ∈ L) with
        | true =>
          cases hm : mayS k x bl with
          | true =>
            have HP : Hid (partOk x bl k = true) := Lib.hid (by rw [HPO.out, hb, if_pos rfl, hm])
            have HM := Lib.hid hm
            clear hm hb
            go_wp2_with (first | (refine ld_g rfl (ty := 27) rfl (p := .pointer (some ⟨Q, 0, none⟩)) rfl hlp.out ?_))
            refine (may_any k hlt x p bl cap hbl w4).mono ?_
            rintro e w6 ⟨rfl, hB6⟩
            rw [HM.out]
            have hQ6 := below_blk hB6 hQ4
            have hS6 := hS4.below hB6
            have hBw6 := hB4.trans (hB6.mono hB4.size)
            clear hQ4 hS4 hB4 hB6 en0 en1 hX4
            go_wp2
            go_roundw
            case rel => exact ⟨k + 1, by omega, by go_num, Lib.hid (by unfold okTo; rw [HK.out, HP.out]; rfl), hQ6, hS6, hBw6⟩
            case measure => simp [intOf]; omega
          | false =>
            have HN : Hid (checkS x bl = 2) := Lib.hid (checkS_no hlt (by rw [HPO.out, hb]; simp [hm]))
            have HM := Lib.hid hm
            clear hm hb
            go_wp2_with (first | (refine ld_g rfl (ty := 27) rfl (p := .pointer (some ⟨Q, 0, none⟩)) rfl hlp.out ?_))
            refine (may_any k hlt x p bl cap hbl w4).mono ?_
            rintro e w6 ⟨rfl, hB6⟩
            rw [HM.out]
            have hBw6 := hB4.trans (hB6.mono hB4.size)
            clear hQ4 hS4 hB4 hB6 en0 en1 hX4
            go_wp2
            go_ret
            exact ⟨by rw [HN.out]; rfl, hBw6⟩
        | false =>
          cases hm : zeroS k x bl with
          | true =>
            have HP : Hid (partOk x bl k = true) := Lib.hid (by rw [HPO.out, hb]; simp [hm])
            have HM := Lib.hid hm
            clear hm hb
            go_wp2_with (first | (refine ld_g rfl (ty := 27) rfl (p := .pointer (some ⟨Q, 0, none⟩)) rfl hlp.out ?_))
            refine (zero_any k hlt x hx p bl cap hbl w4).mono ?_
            rintro e w6 ⟨rfl, hB6⟩
            rw [HM.out]
            have hQ6 := below_blk hB6 hQ4
            have hS6 := hS4.below hB6
            have hBw6 := hB4.trans (hB6.mono hB4.size)
            clear hQ4 hS4 hB4 hB6 en0 en1 hX4
            go_wp2
            go_roundw
            case rel => exact ⟨k + 1, by omega, by go_num, Lib.hid (by unfold okTo; rw [HK.out, HP.out]; rfl), hQ6, hS6, hBw6⟩
            case measure => simp [intOf]; omega
          | false =>
            have HN : Hid (checkS x bl = 2) := Lib.hid (checkS_no hlt (by rw [HPO.out, hb]; simp [hm]))
            have HM := Lib.hid hm
            clear hm hb
            go_wp2_with (first | (refine ld_g rfl (ty := 27) rfl (p := .pointer (some ⟨Q, 0, none⟩)) rfl hlp.out ?_))
            refine (zero_any k hlt x hx p bl cap hbl w4).mono ?_
            rintro e w6 ⟨rfl, hB6⟩
            rw [HM.out]
            have hBw6 := hB4.trans (hB6.mono hB4.size)
            clear hQ4 hS4 hB4 hB6 en0 en1 hX4
            go_wp2
            go_ret
            exact ⟨by rw [HN.out]; rfl, hBw6⟩
      · have e6 : k = 6 := by omega
        subst e6
        have HC : Hid (checkS x bl = 0) := Lib.hid (by unfold checkS; rw [if_neg HN.out, if_pos HK.out])
        go_wp2
        go_ret
        exact ⟨by rw [HC.out]; rfl, hB⟩
end Go.Proofs.YtjieiijbgbkikaaDoor
end
section
/- append(s, x...) of integers as one operation. No program is used here. -/
namespace Go.Proofs.YtjieiijbgbkikaaDoor
open Go Go.RowKit
section
variable {P : Program} {o : Oper} {a : Act} {w : World} {Q : Exit → Act → World → Prop} {K : Act → World → Prop}
theorem wp_ap_ints {s x : Operand} {t : TypeId} (ho : o.op = .call { callee := .builtin .append, args := #[s, x], argTypes := #[t, t] })
    {E : TypeId} {k : IntKind} {by' : Nat} (ht : P.underlying t = some (.slice E)) (hi : (P.info? E).map (fun i => (i.zero, i.size, i.bytes)) = some (some (.int k 0), 1, by')) (hby : by' ≤ 8)
    {base : Nat} {v : Value} {l : List Int} (hs : a.eval s = v) (hown : Own base w E k v l) {p : Option Addr} {sLen sCap : Nat} {m : List Int} (hx : a.eval x = .slice p sLen sCap) (hsl : sLen = m.length) (hsrc : SL k w p m)
    (hlen : l.length + m.length ≤ 1099511627776) (hbase : base ≤ w.heap.size)
    (h : ∀ v' w', Own base w' E k v' (l ++ m) → w.grownBy w' v.ownBlock → (v'.ownBlock = v.ownBlock ∨ v'.ownBlock = some w.heap.size) → K (a.put o.dst v') w') : o.wp P a w K Q := by
  cases hq : P.info? E with
  | none => simp [hq] at hi
  | some i =>
    simp [hq] at hi
    obtain ⟨hz, hs1, hb⟩ := hi
    by_cases hm : m = []
    · subst hm
      simp only [List.length_nil] at hsl
      subst hsl
      have hrun := run_append_none (P := P) (w := w) (ty := o.type) ht hq hown p sCap
      unfold Oper.wp
      simp [execOp, ho, resolve, invoke, builtin, hs, hx, hrun, Result.andThen]
      exact h v w (by simpa using hown) ⟨rfl, rfl, rfl, Nat.le_refl _, fun _ _ _ => rfl⟩ (.inl rfl)
    · have hm0 : 0 < m.length := List.length_pos_iff.2 hm
      obtain ⟨ad, rfl, hv⟩ := hsrc.vals (n := m.length) hm0 (Nat.le_refl _)
      rw [List.take_of_length_le (Nat.le_refl _)] at hv
      obtain ⟨v', w', hr, h2, h3, _, h5⟩ := run_append_own_at (P := P) w base t o.type E i (.int k 0) 1 by' ht hq hz hs1 hb (by rfl) (by decide) v l.length (l.map (Value.int k)) hown ad m.length sCap (m.map (Value.int k)) (by simp) hv (by
        intro u hu; obtain ⟨y, _, rfl⟩ := List.mem_map.1 hu; rfl) (by simp only [maxLen]; omega) (by
        have h1 : (l.length + m.length) * by' ≤ 1099511627776 * 8 := Nat.mul_le_mul hlen hby
        omega) hbase
      subst hsl
      unfold Oper.wp execOp
      simp only [ho, resolve, invoke, builtin, Sem.run_bind, Sem.run_pure, Result.andThen_ok, List.map_toArray, List.map_cons, List.map_nil, hs, hx, hr]
      refine h v' w' ?_ h3 h5
      unfold Own
      rw [List.length_append, List.map_append]
      exact h2
end
/-- Own after a growth. -/
theorem Own.more {base : Nat} {w w' : World} {E : TypeId} {k : IntKind} {v v' : Value} {l l' : List Int} (h : Own base w E k v l) (hg : w.grownBy w' v.ownBlock) (h' : Own base w' E k v' l') : Kep (fun g => v.ownBlock = some g) w w' :=
  Kep.of_grown hg fun _ e => e
end Go.Proofs.YtjieiijbgbkikaaDoor
end
section
/- A region whose order is open: operations that yield one and the same value wherever they may come up are taken first; what a world is known to meet may hang on which of the named operations (the list E: calls, stores) have been carried out. No program is used here. -/
namespace Go.Proofs.YtjieiijbgbkikaaDoor
open Go

section
variable {P : Program} {ops : Array Oper} {Q : Exit → Act → World → Prop} {md : Region.Mode} {E : List Nat} {S : List Bool → World → Prop}

/-- Which of the operations of E have come up. -/
def flags (E : List Nat) (listed : Array Bool) : List Bool := E.map fun e => listed.getD e true

def wpAnyE (P : Program) (md : Region.Mode) (ops : Array Oper) (Q : Exit → Act → World → Prop) (E : List Nat) (S : List Bool → World → Prop) : Nat → Array Bool → Act → World → Prop
  | 0, listed, a, w => Region.ready md ops listed = [] ∧ Q .normal a w
  | fuel + 1, listed, a, w =>
    (Region.ready md ops listed = [] → Q .normal a w) ∧
    ∀ i ∈ Region.ready md ops listed, wpOp P ops Q i (fun a' w' => S (flags E (listed.setIfInBounds i true)) w' ∧ wpAnyE P md ops Q E S fuel (listed.setIfInBounds i true) a' w') a w

theorem wpAny_of_E : ∀ (fuel : Nat) (listed : Array Bool) (a : Act) (w : World), wpAnyE P md ops Q E S fuel listed a w → wpAny P md ops Q fuel listed a w
  | 0, _, _, _, h => h
  | fuel + 1, _, _, _, h => ⟨h.1, fun i hi => wpOp_mono (fun a' w' h' => wpAny_of_E fuel _ a' w' h'.2) (h.2 i hi)⟩

/-- Those that cannot come up before i: i itself, and whatever waits for one of them, numbers below j asked. -/
def lateTo (md : Region.Mode) (ops : Array Oper) (i : Nat) : Nat → Nat → Bool
  | 0, _ => false
  | f + 1, j => j == i || (List.range j).any fun x => Region.waitsFor md ops j x && lateTo md ops i f x
def late (md : Region.Mode) (ops : Array Oper) (i j : Nat) : Bool := lateTo md ops i ops.size j

/-- Whatever has come up had all that it waits for come up ahead of it. -/
def Closed (md : Region.Mode) (ops : Array Oper) (listed : Array Bool) : Prop :=
  ∀ j x, listed.getD j false = true → Region.waitsFor md ops j x = true → listed.getD x false = true
def closedB (md : Region.Mode) (ops : Array Oper) (listed : Array Bool) : Bool :=
  (List.range listed.size).all fun j => !listed.getD j false || (match ops[j]? with | some o => o.after.all fun e => !Region.binds md e || listed.getD e.on false | none => true)
theorem closed_of_B {listed : Array Bool} (h : closedB md ops listed = true) : Closed md ops listed := by
  intro j x hj hw
  obtain ⟨oj, ho, e, he, hb, rfl⟩ := Region.waitsFor_spec hw
  have hlt : j < listed.size := by
    rcases Nat.lt_or_ge j listed.size with h' | h'
    · exact h'
    · simp [Array.getElem?_eq_none h'] at hj
  have h1 := List.all_eq_true.1 h j (List.mem_range.2 hlt)
  simp only [hj, Bool.not_true, Bool.false_or, ho] at h1
  have h2 := Array.all_eq_true_iff_forall_mem.1 h1 e he
  simpa [hb] using h2
theorem Closed.set {listed : Array Bool} (h : Closed md ops listed) {i : Nat} (hi : i ∈ Region.ready md ops listed) : Closed md ops (listed.setIfInBounds i true) := by
  obtain ⟨_, oi, hoi, hall⟩ := mem_ready.1 hi
  intro j x hj hw
  by_cases hij : i = j
  · subst hij
    obtain ⟨oj, ho, e, he, hb, rfl⟩ := Region.waitsFor_spec hw
    have : oj = oi := Option.some.inj (ho.symm.trans hoi)
    subst this
    exact getD_set_true (hall e he hb)
  · rw [getD_set_ne false hij] at hj
    exact getD_set_true (h j x hj hw)
theorem late_unlisted {listed : Array Bool} (h : Closed md ops listed) {i : Nat} (hi : listed.getD i false = false) : ∀ f j, lateTo md ops i f j = true → listed.getD j false = false := by
  intro f
  induction f with
  | zero => intro j hj; simp [lateTo] at hj
  | succ f ih =>
    intro j hj
    simp only [lateTo, Bool.or_eq_true, beq_iff_eq] at hj
    rcases hj with rfl | hj
    · exact hi
    · obtain ⟨x, _, hx⟩ := List.any_eq_true.1 hj
      simp only [Bool.and_eq_true] at hx
      cases hl : listed.getD j false with
      | false => rfl
      | true =>
        have := h j x hl hx.1
        rw [ih x hx.2] at this
        cases this

/-- May the flags be so while i has not come up? -/
def okE (md : Region.Mode) (ops : Array Oper) (i : Nat) : List Nat → List Bool → Bool
  | e :: E, f :: fl => !(f && late md ops i e) && okE md ops i E fl
  | _, _ => true
theorem getD_in' {listed : Array Bool} {i : Nat} (hi : i < listed.size) : listed.getD i true = listed.getD i false := by simp [hi]
theorem okE_flags {listed : Array Bool} (h : Closed md ops listed) {i : Nat} (hi : listed.getD i true = false) (hE : ∀ e ∈ E, e < listed.size) : okE md ops i E (flags E listed) = true := by
  have hi' : listed.getD i false = false := getD_both hi
  induction E with
  | nil => rfl
  | cons e E ih =>
    simp only [flags, List.map_cons, okE, Bool.and_eq_true, Bool.not_eq_true', Bool.and_eq_false_iff]
    refine ⟨?_, ih fun x hx => hE x (List.mem_cons_of_mem _ hx)⟩
    cases hl : late md ops i e with
    | false => exact .inr rfl
    | true => exact .inl (by rw [getD_in' (hE e (List.mem_cons_self ..))]; exact late_unlisted h hi' _ _ hl)
theorem flags_set {listed : Array Bool} {i : Nat} (hi : i ∉ E) : flags E (listed.setIfInBounds i true) = flags E listed := by
  unfold flags
  exact List.map_congr_left fun e he => getD_set_ne true (fun h => hi (h ▸ he))
theorem set_comm' (listed : Array Bool) (i j : Nat) : (listed.setIfInBounds i true).setIfInBounds j true = (listed.setIfInBounds j true).setIfInBounds i true := by
  by_cases h : i = j
  · subst h; rfl
  · exact Array.setIfInBounds_comm _ _ h

theorem wpAnyE_first {i : Nat} {oi : Oper} {v : Value} (hi : ops[i]? = some oi) (hsel : ∀ (j : Nat) (o : Oper) cs b, ops[j]? = some o → o.op ≠ .select cs b)
    (hQ : ∀ c a w, Q (.panic c) (a.put oi.dst v) w → Q (.panic c) a w) (hiE : i ∉ E) :
    ∀ (fuel : Nat) (listed : Array Bool) (a : Act) (w : World), Closed md ops listed → (∀ e ∈ E, e < listed.size) →
      (∀ j oj, ops[j]? = some oj → j ≠ i → listed.getD j true = false → (∀ e ∈ oj.after, Region.binds md e = true → e.on ≠ i) → oi.apart ops oj = true) →
      i ∈ Region.ready md ops listed → YieldsIf P ops (fun w => ∃ fl, okE md ops i E fl = true ∧ S fl w) oi v a → S (flags E listed) w →
      wpAnyE P md ops Q E S fuel (listed.setIfInBounds i true) (a.put oi.dst v) w → wpAnyE P md ops Q E S (fuel + 1) listed a w := by
  intro fuel
  induction fuel with
  | zero =>
    intro listed a w hcl hE _ hr hy hS H
    have hun := (mem_ready.1 hr).1
    refine ⟨fun h => (by rw [h] at hr; cases hr), fun j hj => ?_⟩
    by_cases hji : j = i
    · subst hji; exact hy.wpOp hi ⟨_, okE_flags hcl hun hE, hS⟩ ⟨by rw [flags_set hiE]; exact hS, H⟩
    · have := ready_mono hj hji
      rw [H.1] at this
      cases this
  | succ fuel ih =>
    intro listed a w hcl hE hfree hr hy hS H
    have hun := (mem_ready.1 hr).1
    refine ⟨fun h => (by rw [h] at hr; cases hr), fun j hj => ?_⟩
    by_cases hji : j = i
    · subst hji; exact hy.wpOp hi ⟨_, okE_flags hcl hun hE, hS⟩ ⟨by rw [flags_set hiE]; exact hS, H⟩
    · have h1 := H.2 j (ready_mono hj hji)
      obtain ⟨hjun, oj, hoj, hall⟩ := mem_ready.1 hj
      have hnot : ∀ e ∈ oj.after, Region.binds md e = true → e.on ≠ i := fun e he hb heq => by
        have h1 := hall e he hb
        rw [heq, getD_both hun] at h1
        cases h1
      have h2 := wpOp_putIf hoj (hfree j oj hoj hji hjun hnot) (fun cs b => hsel i oi cs b hi) (fun cs b => hsel j oj cs b hoj) hQ hy h1
      refine wpOp_mono (fun a' w' h' => ?_) h2
      obtain ⟨hy', hS', H'⟩ := h'
      rw [set_comm', flags_set hiE] at hS'
      refine ⟨hS', ih (listed.setIfInBounds j true) a' w' (hcl.set hj) (by simpa using hE) ?_ (ready_mono hr (Ne.symm hji)) hy' hS' (by rw [set_comm']; exact H')⟩
      intro k ok hk hki hkun hno
      refine hfree k ok hk hki ?_ hno
      by_cases hkj : j = k
      · subst hkj; exact hjun
      · rw [getD_set_ne true hkj] at hkun; exact hkun

/-- All that is asked of the tables for a take. -/
def takeOk (md : Region.Mode) (ops : Array Oper) (E : List Nat) (listed : Array Bool) (i : Nat) : Bool :=
  Region.noSelect ops && Region.free md ops listed i && (Region.ready md ops listed).contains i && !E.contains i && closedB md ops listed && E.all (fun e => decide (e < listed.size))
theorem wpAnyE_take {i : Nat} {oi : Oper} {v : Value} {fuel : Nat} {listed : Array Bool} {a : Act} {w : World} (hi : ops[i]? = some oi)
    (ht : takeOk md ops E listed i = true) (hQ : ∀ c a w, Q (.panic c) (a.put oi.dst v) w → Q (.panic c) a w)
    (hy : YieldsIf P ops (fun w => ∃ fl, okE md ops i E fl = true ∧ S fl w) oi v a) (hS : S (flags E listed) w)
    (h : wpAnyE P md ops Q E S fuel (listed.setIfInBounds i true) (a.put oi.dst v) w) : wpAnyE P md ops Q E S (fuel + 1) listed a w := by
  simp only [takeOk, Bool.and_eq_true, Bool.not_eq_true', List.all_eq_true, decide_eq_true_eq] at ht
  obtain ⟨⟨⟨⟨⟨t1, t2⟩, t3⟩, t4⟩, t5⟩, t6⟩ := ht
  exact wpAnyE_first hi (Region.noSelect_spec t1) hQ (by simpa using t4) fuel listed a w (closed_of_B t5) t6 (Region.free_spec hi t2) (by simpa using t3) hy hS h
/-- Whichever of those that may come up comes up. -/
theorem wpAnyE_all {rs : List Nat} {fuel : Nat} {listed : Array Bool} {a : Act} {w : World} (hr : Region.ready md ops listed = rs) (hne : rs ≠ [])
    (h : ∀ i ∈ rs, wpOp P ops Q i (fun a' w' => S (flags E (listed.setIfInBounds i true)) w' ∧ wpAnyE P md ops Q E S fuel (listed.setIfInBounds i true) a' w') a w) :
    wpAnyE P md ops Q E S (fuel + 1) listed a w :=
  ⟨fun h0 => absurd (hr ▸ h0) hne, hr ▸ h⟩
/-- One alone may come up. -/
theorem wpAnyE_one {i : Nat} {o : Oper} {fuel : Nat} {listed : Array Bool} {a : Act} {w : World} (hr : Region.ready md ops listed = [i]) (ho : ops[i]? = some o) (hg : o.guard = none)
    (h : o.wp P a w (fun a' w' => S (flags E (listed.setIfInBounds i true)) w' ∧ wpAnyE P md ops Q E S fuel (listed.setIfInBounds i true) a' w') Q) :
    wpAnyE P md ops Q E S (fuel + 1) listed a w :=
  wpAnyE_all hr (by simp) fun j hj => by
    have : j = i := by simpa using hj
    subst this
    unfold wpOp
    simp only [ho]
    rw [if_pos (by simp [Region.wanted, hg])]
    exact .inl h
/-- All have come up. -/
theorem wpAnyE_done {listed : Array Bool} {a : Act} {w : World} (hr : Region.ready md ops listed = []) (h : Q .normal a w) : ∀ fuel, wpAnyE P md ops Q E S fuel listed a w
  | 0 => ⟨hr, h⟩
  | _ + 1 => ⟨fun _ => h, by rw [hr]; simp⟩
theorem wp_region_E {id : Nat} {a : Act} {w : World} (E : List Nat) (S : List Bool → World → Prop) (hm : P.follows .mixedOrders = true)
    (h : wpAnyE P .any ops Q E S ops.size (Array.replicate ops.size false) a w.drew) : (Code.region id ops true).wp P Q a w :=
  wp_region_any hm (wpAny_of_E _ _ _ _ h)

theorem at_of_drop {ops : Array Oper} {i : Nat} {o : Oper} (h : (ops.toList.drop i).head? = some o) : ops[i]? = some o := by
  rw [List.head?_drop] at h
  simpa using h
/-- One pivot: A holds in every world met; B till the pivot has come up. -/
def S1 (A B : World → Prop) : List Bool → World → Prop
  | [c], w => A w ∧ (c = false → B w)
  | _, _ => False
variable {A B : World → Prop} {e : Nat}
theorem S1.any {fl : List Bool} {w : World} (h : S1 A B fl w) : A w := by
  match fl, h with
  | [_], h => exact h.1
theorem S1.early {fl : List Bool} {w : World} {i : Nat} (h : S1 A B fl w) (hok : okE md ops i [e] fl = true) (hl : late md ops i e = true) : B w := by
  match fl, h with
  | [c], h =>
    refine h.2 ?_
    simpa [okE, hl] using hok
/-- Taken first: an operation that yields its value in whatever world meets A. -/
theorem takeA {i : Nat} {oi : Oper} {v : Value} {fuel : Nat} {listed : Array Bool} {a : Act} {w : World} (hi : (ops.toList.drop i).head? = some oi)
    (ht : takeOk md ops [e] listed i = true) (hQ : ∀ c a w, Q (.panic c) (a.put oi.dst v) w → Q (.panic c) a w) (hg : oi.guard = none)
    (hS : S1 A B (flags [e] listed) w) (hy : ∀ w, A w → (execOp a.eval oi).run P w = .ok (.value v) w)
    (h : wpAnyE P md ops Q [e] (S1 A B) fuel (listed.setIfInBounds i true) (a.put oi.dst v) w) : wpAnyE P md ops Q [e] (S1 A B) (fuel + 1) listed a w :=
  wpAnyE_take (at_of_drop hi) ht hQ (.inl ⟨by simp [Region.wanted, hg], fun w' ⟨_, _, hs⟩ => hy w' hs.any⟩) hS h
/-- Taken first: an operation that comes ahead of the pivot, and yields its value in whatever world meets B. -/
theorem takeB {i : Nat} {oi : Oper} {v : Value} {fuel : Nat} {listed : Array Bool} {a : Act} {w : World} (hi : (ops.toList.drop i).head? = some oi)
    (ht : takeOk md ops [e] listed i = true) (hQ : ∀ c a w, Q (.panic c) (a.put oi.dst v) w → Q (.panic c) a w) (hg : oi.guard = none) (hl : late md ops i e = true)
    (hS : S1 A B (flags [e] listed) w) (hy : ∀ w, A w → B w → (execOp a.eval oi).run P w = .ok (.value v) w)
    (h : wpAnyE P md ops Q [e] (S1 A B) fuel (listed.setIfInBounds i true) (a.put oi.dst v) w) : wpAnyE P md ops Q [e] (S1 A B) (fuel + 1) listed a w :=
  wpAnyE_take (at_of_drop hi) ht hQ (.inl ⟨by simp [Region.wanted, hg], fun w' ⟨_, hok, hs⟩ => hy w' hs.any (hs.early hok hl)⟩) hS h
theorem runOne {i : Nat} {o : Oper} {fuel : Nat} {listed : Array Bool} {a : Act} {w : World} (hr : Region.ready md ops listed = [i]) (ho : (ops.toList.drop i).head? = some o) (hg : o.guard = none)
    (h : o.wp P a w (fun a' w' => S1 A B (flags [e] (listed.setIfInBounds i true)) w' ∧ wpAnyE P md ops Q [e] (S1 A B) fuel (listed.setIfInBounds i true) a' w') Q) :
    wpAnyE P md ops Q [e] (S1 A B) (fuel + 1) listed a w := wpAnyE_one hr (at_of_drop ho) hg h
/-- A load's value, given as an equation. -/
theorem exec_load {P : Program} {o : Oper} {a : Act} {w : World} {ty : TypeId} {x : Operand} {v p : Value} (ho : o.op = .load ty x) (hx : a.eval x = p) (h : (Instr.loadAt ty p).run P w = .ok v w) :
    (execOp a.eval o).run P w = .ok (.value v) w := by
  unfold execOp
  simp only [ho, hx, Sem.run_bind, h, Result.andThen_ok]
  rfl
end
end Go.Proofs.YtjieiijbgbkikaaDoor
end
section
/- Package packet: how a field is put; write, Bytes. -/
namespace Go.Proofs.YtjieiijbgbkikaaDoor
open Go Go.RowKit
set_option maxRecDepth 100000
attribute [local go_sem] cell?_eq frozen?_eq heap_setCell_eq heap_setCell_ne

def putS (n : Nat) (x : Pkt) (m : List Int) : List Int :=
  match n with
  | 0 => numS (IntKind.u64.wrap x.peer)
  | 1 => numS x.session
  | 2 => numS x.epoch
  | 3 => numS x.count
  | 4 => x.random ++ x.mark
  | _ => blkS m
def PutPost (B : Nat) (v : Value) (l : List Int) (w : World) (e : Ending) (w' : World) : Prop :=
  ∃ v', e = .returned v' ∧ Own B w' 5 .u8 v' l ∧ Kep (fun g => v.ownBlock = some g) w w' ∧ ∀ g, v'.ownBlock = some g → v.ownBlock = some g ∨ w.heap.size ≤ g
theorem sl_rand {w : World} {Q : Nat} {x : Pkt} {vb : Value} {T : TypeId} {fr : Nat × Nat} (hQ : w.heap[Q]? = some (.cells (pktC x vb) T fr)) (h : x.random.length = 16) : SL .u8 w (some ⟨Q, 5, none⟩) x.random :=
  .inr ⟨Q, 5, rfl, fun i hi => by rw [cell?_eq, hQ, cellOf_some, pktC_el_random x vb i (by omega)]⟩
theorem sl_mark {w : World} {Q : Nat} {x : Pkt} {vb : Value} {T : TypeId} {fr : Nat × Nat} (hQ : w.heap[Q]? = some (.cells (pktC x vb) T fr)) (h : x.mark.length = 16) : SL .u8 w (some ⟨Q, 21, none⟩) x.mark :=
  .inr ⟨Q, 21, rfl, fun i hi => by rw [cell?_eq, hQ, cellOf_some, pktC_el_mark x vb i (by omega)]⟩
theorem put_done {B : Nat} {v : Value} {l : List Int} {w w' : World} {v' : Value} (hB : B ≤ w.heap.size) (hO : Own w.heap.size w' 5 .u8 v' l) (h : Below w.heap.size w w') : PutPost B v l w (.returned v') w' :=
  ⟨v', rfl, hO.mono hB, Kep.of_below h fun _ hk _ => hk, fun g e => .inr (hO.lt g e).1⟩
theorem u64_wrap_lim (x : Int) : u64lim (IntKind.u64.wrap x) := by
  unfold u64lim
  simp [IntKind.wrap, IntKind.signed, IntKind.bits]
  omega
set_option maxHeartbeats 8000000 in
theorem put_any (n : Nat) (hn : n < 6) (x : Pkt) (hx : PktOk x) (B : Nat) (v : Value) (l m : List Int) (q : Option Addr) (cq : Nat) (hm : m.length ≤ 1048576) (hl : l.length ≤ 1073741824) (w : World) (hBw : B ≤ w.heap.size) (hO : Own B w 5 .u8 v l) (hQ : SL .u8 w q m) :
    Calls Tryd.prog (putF n) #[v, .agg (pktC x (.slice q m.length cq))] w (PutPost B v (l ++ putS n x m) w) := by
  match n, hn with
  | 0, _ =>
    show Calls Tryd.prog 50 _ _ _
    obtain ⟨p, cap, rfl, hS, hc⟩ := hO.form
    have HX : Hid (u64lim (IntKind.u64.wrap x.peer)) := Lib.hid (u64_wrap_lim _)
    go_enter Tryd.func50, Tryd.ntmps50
    go_wp2_with (first | (refine bx_abs rfl (ty := 27) rfl rfl ?_; intro W X hX hB hz hXz) | (go_at_call 51; fail))
    refine (number_any l (IntKind.u64.wrap x.peer) HX.out (by omega) p cap W (hS.below hB)).mono ?_
    rintro e w1 ⟨v1, rfl, hO1, hB1⟩
    have hBB := hB.trans (hB1.mono hB.size)
    have hO2 := hO1.mono hB.size
    clear hB hB1 hO1 hX
    go_wp2
    go_ret
    exact put_done hBw hO2 hBB
  | 1, _ =>
    show Calls Tryd.prog 55 _ _ _
    obtain ⟨p, cap, rfl, hS, hc⟩ := hO.form
    have HX : Hid (u64lim (x.session)) := Lib.hid (hx.session)
    go_enter Tryd.func55, Tryd.ntmps55
    go_wp2_with (first | (refine bx_abs rfl (ty := 27) rfl rfl ?_; intro W X hX hB hz hXz) | (go_at_call 51; fail))
    refine (number_any l (x.session) HX.out (by omega) p cap W (hS.below hB)).mono ?_
    rintro e w1 ⟨v1, rfl, hO1, hB1⟩
    have hBB := hB.trans (hB1.mono hB.size)
    have hO2 := hO1.mono hB.size
    clear hB hB1 hO1 hX
    go_wp2
    go_ret
    exact put_done hBw hO2 hBB
  | 3, _ =>
    show Calls Tryd.prog 64 _ _ _
    obtain ⟨p, cap, rfl, hS, hc⟩ := hO.form
    have HX : Hid (u64lim (x.count)) := Lib.hid (hx.count)
    go_enter Tryd.func64, Tryd.ntmps64
    go_wp2_with (first | (refine bx_abs rfl (ty := 27) rfl rfl ?_; intro W X hX hB hz hXz) | (go_at_call 51; fail))
    refine (number_any l (x.count) HX.out (by omega) p cap W (hS.below hB)).mono ?_
    rintro e w1 ⟨v1, rfl, hO1, hB1⟩
    have hBB := hB.trans (hB1.mono hB.size)
    have hO2 := hO1.mono hB.size
    clear hB hB1 hO1 hX
    go_wp2
    go_ret
    exact put_done hBw hO2 hBB
  | 2, _ =>
    show Calls Tryd.prog 60 _ _ _
    obtain ⟨p, cap, rfl, hS, hc⟩ := hO.form
    have hep := hx.epoch
    have HX : Hid (u64lim x.epoch) := Lib.hid ⟨by omega, by omega⟩
    have hwr : IntKind.u64.wrap x.epoch = x.epoch := IntWalk.u64_in _ (by omega)
    go_enter Tryd.func60, Tryd.ntmps60
    go_wp2_with (first | (refine bx_abs rfl (ty := 27) rfl rfl ?_; intro W X hX hB hz hXz) | (go_at_call 51; fail))
    try rw [hwr]
    refine (number_any l x.epoch HX.out (by omega) p cap W (hS.below hB)).mono ?_
    rintro e w1 ⟨v1, rfl, hO1, hB1⟩
    have hBB := hB.trans (hB1.mono hB.size)
    have hO2 := hO1.mono hB.size
    clear hB hB1 hO1 hX
    go_wp2
    go_ret
    exact put_done hBw hO2 hBB
  | 5, _ =>
    show Calls Tryd.prog 73 _ _ _
    obtain ⟨p, cap, rfl, hS, hc⟩ := hO.form
    go_enter Tryd.func73, Tryd.ntmps73
    go_wp2_with (first | (refine bx_abs rfl (ty := 27) rfl rfl ?_; intro W X hX hB hz hXz) | (go_at_call 74; fail))
    refine (oblock_any l m (by omega) hm p q cap cq W (hS.below hB) (hQ.below hB)).mono ?_
    rintro e w1 ⟨v1, rfl, hO1, hB1⟩
    have hBB := hB.trans (hB1.mono hB.size)
    have hO2 := hO1.mono hB.size
    clear hB hB1 hO1 hX
    go_wp2
    go_ret
    exact put_done hBw hO2 hBB
  | 4, _ =>
    show Calls Tryd.prog 68 _ _ _
    go_enter Tryd.func68, Tryd.ntmps68
    go_wp2_with (refine bx_abs rfl (ty := 27) rfl rfl ?_; intro W X hX hB hz hXz)
    have hO0 := hO.below hB
    have hSr := sl_rand hX hx.random
    have hSm := sl_mark hX hx.mark
    have hne := hO0.ne hX (by decide)
    have hlr := hx.random
    have hlm := hx.mark
    have hzz := hB.size
    refine wp_region_E [3] (S1 (fun _ => True) (fun _ => True)) (by kernel_rfl) ?_
    have hI0 : ∀ wx, S1 (fun _ => True) (fun _ => True) [false] wx := fun wx => ⟨trivial, fun _ => trivial⟩
    try simp only [Act.put, List.setIfInBounds_toArray, List.set_cons_zero, List.set_cons_succ]
    refine takeA (i := 0) (v := ?_) rfl (by kernel_rfl) (fun _ _ _ h => h) rfl (by exact hI0 _) (fun wx hx => ?_) ?_
    rotate_left
    · go_simp; try with_reducible rfl
    try simp only [Act.put, List.setIfInBounds_toArray, List.set_cons_zero, List.set_cons_succ]
    refine takeA (i := 1) (v := ?_) rfl (by kernel_rfl) (fun _ _ _ h => h) rfl (by exact hI0 _) (fun wx hx => ?_) ?_
    rotate_left
    · go_simp; try with_reducible rfl
    try simp only [Act.put, List.setIfInBounds_toArray, List.set_cons_zero, List.set_cons_succ]
    refine takeA (i := 2) (v := ?_) rfl (by kernel_rfl) (fun _ _ _ h => h) rfl (by exact hI0 _) (fun wx hx => ?_) ?_
    rotate_left
    · go_simp; try with_reducible rfl
    try simp only [Act.put, List.setIfInBounds_toArray, List.set_cons_zero, List.set_cons_succ]
    refine takeA (i := 4) (v := ?_) rfl (by kernel_rfl) (fun _ _ _ h => h) rfl (by exact hI0 _) (fun wx hx => ?_) ?_
    rotate_left
    · go_simp; try with_reducible rfl
    try simp only [Act.put, List.setIfInBounds_toArray, List.set_cons_zero, List.set_cons_succ]
    refine takeA (i := 5) (v := ?_) rfl (by kernel_rfl) (fun _ _ _ h => h) rfl (by exact hI0 _) (fun wx hx => ?_) ?_
    rotate_left
    · go_simp; try with_reducible rfl
    try simp only [Act.put, List.setIfInBounds_toArray, List.set_cons_zero, List.set_cons_succ]
    refine runOne (i := 3) (by kernel_rfl) rfl rfl (wp_ap_ints rfl Tryd.underlying25 (E := 5) (k := .u8) (by' := 1) (by kernel_rfl) (by decide) (base := B) (v := v) (l := l) (m := x.random) (p := some ⟨X, 5, none⟩) (sLen := 16) (sCap := 16) rfl (by exact hO0) rfl (by exact hlr.symm) (by exact hSr) (by omega) (by show B ≤ W.heap.size; omega) ?_)
    intro v1 w1 hO1 hg1 hb1
    have hK1 : Kep (fun g => v.ownBlock = some g) W w1 := (Kep.refl _ W).drew.trans (Kep.of_grown hg1 fun _ e => e)
    have hX1 := hK1.heap hX hne
    have hSm1 := sl_mark hX1 hx.mark
    have hz1 : B ≤ w1.heap.size := Nat.le_trans hBw (Nat.le_trans hzz hK1.size)
    clear hX1 hX
    have hI1 : ∀ wx, S1 (fun _ => True) (fun _ => True) [true] wx := fun wx => ⟨trivial, fun _ => trivial⟩
    refine ⟨by exact hI1 _, ?_⟩
    try simp only [Act.put, List.setIfInBounds_toArray, List.set_cons_zero, List.set_cons_succ]
    refine runOne (i := 6) (by kernel_rfl) rfl rfl (wp_ap_ints rfl Tryd.underlying25 (E := 5) (k := .u8) (by' := 1) (by kernel_rfl) (by decide) (base := B) (v := v1) (l := l ++ x.random) (m := x.mark) (p := some ⟨X, 21, none⟩) (sLen := 16) (sCap := 16) rfl (by exact hO1) rfl (by exact hlm.symm) (by exact hSm1) (by rw [List.length_append]; omega) (by exact hz1) ?_)
    intro v2 w2 hO2 hg2 hb2
    have hI2 : ∀ wx, S1 (fun _ => True) (fun _ => True) [true] wx := fun wx => ⟨trivial, fun _ => trivial⟩
    refine ⟨by exact hI2 _, ?_⟩
    try simp only [Act.put, List.setIfInBounds_toArray, List.set_cons_zero, List.set_cons_succ]
    refine takeA (i := 7) (v := ?_) rfl (by kernel_rfl) (fun _ _ _ h => h) rfl (by exact hI2 _) (fun wx hx => ?_) ?_
    rotate_left
    · go_simp; try with_reducible rfl
    try simp only [Act.put, List.setIfInBounds_toArray, List.set_cons_zero, List.set_cons_succ]
    refine wpAnyE_done (by kernel_rfl) ?_ _
    have hK2 := hO1.more hg2 hO2
    clear hSm1 hz1 hO1 hg1 hg2
    go_wp2
    go_ret
    refine ⟨v2, rfl, by rw [putS, ← List.append_assoc]; exact hO2, ?_, ?_⟩
    rotate_left
    · intro g e
      rcases hb2 with h | h
      · rw [h] at e
        rcases hb1 with h1 | h1
        · exact .inl (h1.symm.trans e)
        · rw [h1] at e; cases e; exact .inr hzz
      · rw [h] at e; cases e; exact .inr (Nat.le_trans hzz hK1.size)
    have hK : Kep (fun g => v.ownBlock = some g) W w2 := hK1.then hK2 (fun g hg hv1 => by
      rcases hb1 with h | h
      · exact h.symm.trans hv1
      · rw [h] at hv1
        cases hv1
        exact absurd hg (Nat.lt_irrefl _))
    exact Kep.then (Kep.of_below hB fun _ hk _ => hk) hK (fun _ _ h => h)
end Go.Proofs.YtjieiijbgbkikaaDoor
end
section
/- Package packet: write, Bytes. -/
namespace Go.Proofs.YtjieiijbgbkikaaDoor
open Go Go.RowKit
set_option maxRecDepth 100000
attribute [local go_sem] cell?_eq frozen?_eq heap_setCell_eq heap_setCell_ne

/-- The parts of the first k of a list. -/
def partsS (x : Pkt) (m : List Int) (L : List Int) : Nat → List Int
  | 0 => []
  | k + 1 => partsS x m L k ++ putS (nth L k).toNat x m
def writeS (x : Pkt) (m : List Int) : List Int := numS (IntKind.u64.wrap x.kind) ++ partsS x m (hasS x.kind) (hasS x.kind).length
theorem numS_le {x : Int} (h : u64lim x) : (numS x).length ≤ 9 := by rw [numS_len]; have := numN_u64 h; omega
theorem putS_len {x : Pkt} (hx : PktOk x) {m : List Int} (hm : m.length ≤ 1048576) (n : Nat) : (putS n x m).length ≤ 1048600 := by
  have h0 := hx.epoch
  unfold putS
  split
  · exact Nat.le_trans (numS_le (u64_wrap_lim _)) (by decide)
  · exact Nat.le_trans (numS_le hx.session) (by decide)
  · exact Nat.le_trans (numS_le ⟨by omega, by omega⟩) (by decide)
  · exact Nat.le_trans (numS_le hx.count) (by decide)
  · rw [List.length_append, hx.random, hx.mark]; decide
  · rw [blkS_len]; have := numN_u64 (x := (m.length : Int)) ⟨by omega, by omega⟩; simp at this; omega
theorem partsS_len {x : Pkt} (hx : PktOk x) {m : List Int} (hm : m.length ≤ 1048576) (L : List Int) (k : Nat) : (partsS x m L k).length ≤ k * 1048600 := by
  induction k with
  | zero => simp [partsS]
  | succ k ih =>
    rw [partsS, List.length_append]
    have := putS_len hx hm (nth L k).toNat
    omega
theorem partsS_succ (x : Pkt) (m L : List Int) (k : Nat) : partsS x m L (k + 1) = partsS x m L k ++ putS (nth L k).toNat x m := rfl
def WrPost (x : Pkt) (m : List Int) (w : World) (e : Ending) (w' : World) : Prop :=
  ∃ v, e = .returned v ∧ Own w.heap.size w' 5 .u8 v (writeS x m) ∧ Below w.heap.size w w'
set_option maxHeartbeats 8000000 in
theorem pwrite_any (x : Pkt) (hx : PktOk x) (m : List Int) (q : Option Addr) (cq : Nat) (hm : m.length ≤ 1048576) (w : World) (hQ : SL .u8 w q m) :
    Calls Tryd.prog 32 #[.agg (pktC x (.slice q m.length cq))] w (WrPost x m w) := by
  have HN : Hid (u64lim (IntKind.u64.wrap x.kind)) := Lib.hid (u64_wrap_lim _)
  have HQL := Lib.hid hQ.lt
  go_enter Tryd.func32, Tryd.ntmps32
  go_wp2_with (first | (refine bx_abs rfl (ty := 27) rfl rfl ?_; intro W X hX hB hz hXz) | (go_at_call 51; fail))
  refine (number_any [] (IntKind.u64.wrap x.kind) HN.out (by simp) none 0 W (SL.nil _ _ _)).mono ?_
  rintro e w1 ⟨v1, rfl, hO1, hB1⟩
  have hO1' : Own w.heap.size w1 5 .u8 v1 (numS (IntKind.u64.wrap x.kind)) := by have := hO1.mono hB.size; simpa using this
  have hX1 := below_blk hB1 hX
  have hQ1 := (hQ.below hB).below hB1
  have hBw1 := hB.trans (hB1.mono hB.size)
  clear hX hB1 hO1
  go_wp2_with (go_at_call 27; fail)
  refine (has_any x.kind w1).mono ?_
  rintro e w2 ⟨p2, rfl, hS2, _, hB2, hp2⟩
  have hX2 := below_blk hB2 hX1
  have hQ2 := hQ1.below hB2
  have hO2 := hO1'.below hB2
  have hBw2 := hBw1.trans (hB2.mono hBw1.size)
  have hd2 : ∀ a, p2 = some a → hasS x.kind ≠ [] → v1.ownBlock ≠ some a.block := fun a ha _ e => by have := hp2 a ha; have := (hO1'.lt _ e).2; omega
  have hl4 := hasS_len x.kind
  have hlt6 : ∀ i, i < (hasS x.kind).length → 0 ≤ nth (hasS x.kind) i ∧ nth (hasS x.kind) i < 6 := fun i hi => hasS_lt hi
  obtain ⟨L, hL⟩ : ∃ L, L = hasS x.kind := ⟨_, rfl⟩
  rw [← hL] at hS2 hl4 hlt6 hd2 ⊢
  have HL := Lib.hid hL
  have H6 := Lib.hid hlt6
  clear hL hp2 hB2 hB hX1 hQ1 hO1' hBw1 hlt6
  go_wp2
  obtain ⟨N, hN⟩ : ∃ N, N = numS (IntKind.u64.wrap x.kind) := ⟨_, rfl⟩
  rw [← hN] at hO2
  have HNN := Lib.hid hN
  have hNl : N.length ≤ 9 := by rw [hN]; exact numS_le HN.out
  clear hN HN
  go_loopw [3, 14] (fun bv iv wr => ∃ k : Nat, k ≤ L.length ∧ iv = .int .i64 k ∧ Own w.heap.size wr 5 .u8 bv (N ++ partsS x m L k) ∧ wr.heap[X]? = some (.cells (pktC x (.slice q m.length cq)) 27 (0, 0)) ∧ SL .i64 wr p2 L ∧ SL .u8 wr q m ∧ (∀ a, p2 = some a → L ≠ [] → bv.ownBlock ≠ some a.block) ∧ Below w.heap.size w wr) (fun _ iv _ => L.length - (intOf iv).toNat)
  case atStart => exact ⟨0, by omega, rfl, by rw [partsS, List.append_nil]; exact hO2, hX2, hS2, hQ2, hd2, hBw2⟩
  case round =>
    clear hO2 hX2 hS2 hQ2 hBw2 hd2
    obtain ⟨k, hk, rfl, hO, hX, hS, hQ, hd, hB⟩ := hrel
    by_cases hlt : k < L.length
    · obtain ⟨b, off, rfl, hc⟩ := hS.open hlt
      obtain ⟨h60, h66⟩ := H6.out k hlt
      obtain ⟨n, hn⟩ : ∃ n : Nat, n = (nth L k).toNat := ⟨_, rfl⟩
      have hn6 : n < 6 := by omega
      have hnk : nth L k = (n : Int) := by omega
      have hcx := hc k hlt
      rw [hnk] at hcx
      have hcy := hcx
      rw [cell?_eq] at hcy
      have i1 : (k : Int) < (L.length : Int) := by omega
      have HPS : Hid (partsS x m L (k + 1) = partsS x m L k ++ putS n x m) := Lib.hid (by rw [partsS_succ, hnk]; rfl)
      clear hc hnk hn h60 h66
      go_wp2
      refine wp_region_E [1] (S1 (fun w' => w'.heap[X]? = some (.cells (pktC x (.slice q m.length cq)) 27 (0, 0))) (fun _ => True)) (by kernel_rfl) ?_
      have hS0 : S1 (fun w' => w'.heap[X]? = some (.cells (pktC x (.slice q m.length cq)) 27 (0, 0))) (fun _ => True) [false] wr.drew := ⟨hX, fun _ => trivial⟩
      have hen := put_enter n hn6
      have hne := hO.ne hX (by decide)
      have hlen : (N ++ partsS x m L k).length ≤ 1073741824 := by
        rw [List.length_append]
        have h1 := partsS_len hx hm L k
        have h2 : k * 1048600 ≤ 4 * 1048600 := Nat.mul_le_mul_right _ (by omega)
        omega
      have hfd : ∀ wx, (Instr.field 70 (.agg (ofV n)) 2).run Tryd.prog wx = .ok (.func (.func (putF n)) #[] #[]) wx := fun wx => by kernel_rfl
      have hld : ∀ wx : World, wx.heap[X]? = some (.cells (pktC x (.slice q m.length cq)) 27 (0, 0)) → (Instr.loadAt 27 (.pointer (some ⟨X, 0, none⟩))).run Tryd.prog wx = .ok (.agg (pktC x (.slice q m.length cq))) wx := fun wx hq => run_loadAt_row (P := Tryd.prog) (ty := 27) hq Tryd.underlying27 rfl (by kernel_rfl) (pktC_size _ _)
      try simp only [Act.put, List.setIfInBounds_toArray, List.set_cons_zero, List.set_cons_succ]
      refine takeA (i := 0) (v := ?_) rfl (by kernel_rfl) (fun _ _ _ h => h) rfl (by exact hS0) (fun wx hx => ?_) ?_
      rotate_left
      · go_simp; try with_reducible rfl
      try simp only [Act.put, List.setIfInBounds_toArray, List.set_cons_zero, List.set_cons_succ]
      refine takeA (i := 3) (v := ?_) rfl (by kernel_rfl) (fun _ _ _ h => h) rfl (by exact hS0) (fun wx hx => ?_) ?_
      rotate_left
      · go_simp; try with_reducible rfl
      try simp only [Act.put, List.setIfInBounds_toArray, List.set_cons_zero, List.set_cons_succ]
      refine takeA (i := 4) (v := ?_) rfl (by kernel_rfl) (fun _ _ _ h => h) rfl (by exact hS0) (fun wx hx => ?_) ?_
      rotate_left
      · refine (exec_load (p := .pointer (some ⟨X, 0, none⟩)) rfl rfl (hld _ hx)).trans ?_; with_reducible rfl
      try simp only [Act.put, List.setIfInBounds_toArray, List.set_cons_zero, List.set_cons_succ]
      refine runOne (i := 1) (by kernel_rfl) rfl rfl ?_
      go_simp
      refine (of_any n hn6 _).mono ?_
      rintro e w3 ⟨rfl, hB3⟩
      have hB3' : Below wr.heap.size wr w3 := ((Below.refl _ wr).drew).trans hB3
      have hX3 := below_blk hB3' hX
      have hS1 : S1 (fun w' => w'.heap[X]? = some (.cells (pktC x (.slice q m.length cq)) 27 (0, 0))) (fun _ => True) [true] w3 := ⟨hX3, fun _ => trivial⟩
      refine ⟨by exact hS1, ?_⟩
      try simp only [Act.put, List.setIfInBounds_toArray, List.set_cons_zero, List.set_cons_succ]
      refine takeA (i := 2) (v := ?_) rfl (by kernel_rfl) (fun _ _ _ h => h) rfl (by exact hS1) (fun wx hx => ?_) ?_
      rotate_left
      · go_simp; try with_reducible rfl
      try simp only [Act.put, List.setIfInBounds_toArray, List.set_cons_zero, List.set_cons_succ]
      refine runOne (i := 5) (by kernel_rfl) rfl rfl ?_
      go_simp
      refine (put_any n hn6 x hx w.heap.size u3 (N ++ partsS x m L k) m q cq hm hlen w3 (Nat.le_trans hB.size hB3'.size) (hO.below hB3') (hQ.below hB3')).mono ?_
      rintro e w4 ⟨v4, rfl, hO4, hK4, hn4⟩
      have hS2 : S1 (fun w' => w'.heap[X]? = some (.cells (pktC x (.slice q m.length cq)) 27 (0, 0))) (fun _ => True) [true] w4 := ⟨hK4.heap hX3 hne, fun _ => trivial⟩
      refine ⟨by exact hS2, ?_⟩
      try simp only [Act.put, List.setIfInBounds_toArray, List.set_cons_zero, List.set_cons_succ]
      refine takeA (i := 6) (v := ?_) rfl (by kernel_rfl) (fun _ _ _ h => h) rfl (by exact hS2) (fun wx hx => ?_) ?_
      rotate_left
      · go_simp; try with_reducible rfl
      try simp only [Act.put, List.setIfInBounds_toArray, List.set_cons_zero, List.set_cons_succ]
      refine wpAnyE_done (by kernel_rfl) ?_ _
      have hO5 : Own w.heap.size w4 5 .u8 v4 (N ++ partsS x m L (k + 1)) := by rw [HPS.out, ← List.append_assoc]; exact hO4
      have hX5 := hK4.heap hX3 hne
      have hS5 : SL .i64 w4 (some ⟨b, off, none⟩) L := (hS.below hB3').kep hK4 (fun a ha hn e => hd a ha hn e)
      have hQ5 : SL .u8 w4 q m := (hQ.below hB3').kep hK4 (fun a ha hn e => by have := HQL.out hn a ha; have := (hO.lt _ e).1; omega)
      have hd5 : ∀ a, some (⟨b, off, none⟩ : Addr) = some a → L ≠ [] → v4.ownBlock ≠ some a.block := fun a ha hn e => by
        rcases hn4 _ e with h | h
        · exact hd a ha hn h
        · have h1 := hS.lt hn a ha
          have h2 := hB3'.size
          omega
      have hB5 := hK4.below (hB.trans (hB3'.mono hB.size)) (Nat.le_trans hB.size hB3'.size) (fun g e => (hO.lt g e).1)
      clear hO4 hX3 hK4 hn4 hS hQ hB hO hX hd hB3 hB3' hS0 hS1 hS2 hld
      go_wp2
      go_roundw
      case rel => exact ⟨k + 1, by omega, by go_num, hO5, hX5, hS5, hQ5, hd5, hB5⟩
      case measure => simp [intOf]; omega
    · have ek : k = L.length := by omega
      subst ek
      have hr : Own w.heap.size wr 5 .u8 u3 (writeS x m) := by rw [writeS, ← HNN.out, ← HL.out]; exact hO
      clear hO hX hS hQ hd
      go_wp2
      go_ret
      exact ⟨_, rfl, hr, hB⟩
theorem checkS_ok {x : Pkt} {bl : Nat} (h : checkS x bl = 0) : bl ≤ 65552 := by
  unfold checkS at h
  split at h
  · cases h
  split at h
  · rename_i h6
    have h5 := okTo_le h6 (show 5 < 6 by decide)
    unfold partOk at h5
    split at h5
    · simp only [mayS, Bool.and_eq_true, decide_eq_true_eq] at h5; exact h5.2
    · simp only [zeroS, decide_eq_true_eq] at h5; omega
  · cases h
def BytesPost (x : Pkt) (m : List Int) (w : World) (e : Ending) (w' : World) : Prop :=
  ∃ v c, e = .returned (.tuple #[v, .int .i64 c]) ∧ c = checkS x m.length ∧ (c = 0 → Own w.heap.size w' 5 .u8 v (writeS x m)) ∧ (c ≠ 0 → v = .slice none 0 0) ∧ Below w.heap.size w w'
set_option maxHeartbeats 8000000 in
theorem bytes_any (x : Pkt) (hx : PktOk x) (m : List Int) (q : Option Addr) (cq : Nat) (hm : m.length ≤ 1073741824) (w : World) (hQ : SL .u8 w q m) :
    Calls Tryd.prog 17 #[.agg (pktC x (.slice q m.length cq))] w (BytesPost x m w) := by
  go_enter Tryd.func17, Tryd.ntmps17
  go_wp2_with (first | (refine bx_abs rfl (ty := 27) rfl rfl ?_; intro W X hX hB hz hXz) | (go_at_call 11; fail) | (refine ld_row rfl (ty := 27) rfl rfl hX Tryd.underlying27 rfl (by kernel_rfl) (pktC_size _ _) ?_))
  refine (check_any x hx q m.length cq hm W).mono ?_
  rintro e w1 ⟨rfl, hB1⟩
  have hX1 := below_blk hB1 hX
  have hQ1 := (hQ.below hB).below hB1
  have hBw1 := hB.trans (hB1.mono hB.size)
  clear hX hB1 hB
  by_cases hc : checkS x m.length = 0
  · have hm1 := checkS_ok hc
    have HC := Lib.hid hc
    rw [hc]
    clear hc
    go_wp2_with (first | (go_at_call 32; fail) | (refine ld_row rfl (ty := 27) rfl rfl hX1 Tryd.underlying27 rfl (by kernel_rfl) (pktC_size _ _) ?_))
    refine (pwrite_any x hx m q cq (by omega) w1 hQ1).mono ?_
    rintro e w2 ⟨v2, rfl, hO2, hB2⟩
    have hO := hO2.mono hBw1.size
    have hBw := hBw1.trans (hB2.mono hBw1.size)
    clear hX1 hQ1 hO2 hB2 hBw1
    go_wp2
    refine bodyPost_ret (v := .tuple #[v2, .int .i64 0]) (by simp [results, Tryd.results17, go_sem]) rfl ?_
    exact ⟨_, 0, rfl, HC.out.symm, fun _ => hO, fun h => absurd rfl h, hBw⟩
  · have hne : (checkS x m.length == 0) = false := beq_eq_false_iff_ne.2 hc
    have HC := Lib.hid hc
    clear hX1 hQ1 hc
    obtain ⟨c, hcc⟩ : ∃ c, c = checkS x m.length := ⟨_, rfl⟩
    rw [← hcc] at hne HC ⊢
    have HCC := Lib.hid hcc
    clear hcc
    go_wp2
    refine bodyPost_ret (v := .tuple #[.slice none 0 0, .int .i64 c]) (by simp [results, Tryd.results17, go_sem]) rfl ?_
    exact ⟨_, c, rfl, HCC.out, fun h => absurd h HC.out, fun _ => rfl, hBw1⟩
end Go.Proofs.YtjieiijbgbkikaaDoor
end
