/- Lemmas of a proof over the given program, joined by wip/join.py: KLawC KLawD KL9 KL9N KLaid KRowN. -/
import Derived.Test.YtjieiijbgbkikaaDoorJ06
import Derived.Test.YtjieiijbgbkikaaDoorJ07
import Derived.Test.YtjieiijbgbkikaaDoorJ12
import Derived.Lib.SlBytesConst
import Derived.Test.YtjieiijbgbkikaaDoorRows
import Derived.ProofKit
import Derived.LaidMore
import Derived.OpenShut
import Derived.Test.YtjieiijbgbkikaaDoorCards
import Derived.Test.YtjieiijbgbkikaaDoorTie
import Derived.SevenTiedAt
import Derived.Stop.Joined
set_option linter.unusedSimpArgs false
set_option linter.unusedVariables false
section
/- Plain laws on a packet's bytes: no program is used here. -/
namespace Go.Proofs.YtjieiijbgbkikaaDoor
open Go Go.RowKit
set_option maxRecDepth 100000
theorem rd_upto {x most : Int} (h : u64lim x) (hm : x ≤ most) (t : List Int) : rdUpto (numS x ++ t) 0 most = (x, t, 0) := by
  unfold rdUpto
  rw [rd_num h]
  simp only [ne_eq, not_true, if_false]
  rw [if_neg (by omega)]
theorem rd_fixed (r t : List Int) {N : Nat} (h : r.length = N) : rdFixed (r ++ t) 0 N = (r, t, 0) := by
  subst h
  unfold rdFixed
  rw [if_neg (by simp), if_neg (by rw [List.length_append]; omega), List.take_left, List.drop_left]
theorem rd_block {m : List Int} (hm : m.length ≤ 1048576) (t : List Int) : rdBlock (blkS m ++ t) 0 = (m, t, 0) := by
  unfold rdBlock blkS
  rw [List.append_assoc, rd_num ⟨by omega, by omega⟩]
  simp only [ne_eq, not_true, if_false]
  rw [if_neg (by omega), Int.toNat_natCast]
  exact rd_fixed m t rfl
theorem number_inv {l t : List Int} {e x : Int} (hB : Bd 256 l) (h : rdNumber l e = (x, t, 0)) : e = 0 ∧ l = numS x ++ t ∧ u64lim x := by
  have he : e = 0 := by
    unfold rdNumber at h
    split at h
    · assumption
    · simp at h; rename_i hne; exact absurd h.2.2 hne
  subst he
  exact ⟨rfl, rd_num_inv hB h⟩
theorem upto_inv {l t : List Int} {e x most : Int} (hB : Bd 256 l) (h : rdUpto l e most = (x, t, 0)) : e = 0 ∧ l = numS x ++ t ∧ u64lim x ∧ x ≤ most := by
  unfold rdUpto at h
  split at h
  · rename_i hne
    simp only [Prod.mk.injEq] at h
    exact absurd h.2.2 hne
  split at h
  · simp at h
  · rename_i h1
    rw [h] at h1
    have := number_inv hB h
    exact ⟨this.1, this.2.1, this.2.2, by simpa using h1⟩
theorem fixed_inv {l r t : List Int} {e : Int} {N : Nat} (h : rdFixed l e N = (r, t, 0)) : e = 0 ∧ l = r ++ t ∧ r.length = N := by
  unfold rdFixed at h
  split at h
  · rename_i hne
    simp only [Prod.mk.injEq] at h
    exact absurd h.2.2 hne
  split at h
  · simp at h
  · rename_i h0 h1
    simp only [Prod.mk.injEq, and_true] at h
    obtain ⟨rfl, rfl⟩ := h
    exact ⟨by simpa using h0, (List.take_append_drop ..).symm, by rw [List.length_take]; omega⟩
theorem block_inv {l m t : List Int} {e : Int} (hB : Bd 256 l) (h : rdBlock l e = (m, t, 0)) : e = 0 ∧ l = blkS m ++ t := by
  unfold rdBlock at h
  split at h
  · rename_i hne
    simp only [Prod.mk.injEq] at h
    exact absurd h.2.2 hne
  split at h
  · simp at h
  · rename_i h0 h1
    have h2 : (rdNumber l e).2.2 = 0 := by simpa using h0
    obtain ⟨r, hr⟩ : ∃ r, r = rdNumber l e := ⟨_, rfl⟩
    rw [← hr] at h h2
    obtain ⟨a, b, c⟩ := r
    dsimp only at h h2
    subst h2
    have h3 := number_inv hB hr.symm
    have h4 := fixed_inv h
    refine ⟨h3.1, ?_⟩
    rw [h3.2.1, blkS, List.append_assoc]
    have ha : a = (m.length : Int) := by have := h3.2.2.1; omega
    rw [ha, h4.2.1]
/-- A field as wanted. -/
def agree (n : Nat) (x : Pkt) (m : List Int) (x' : Pkt) (m' : List Int) : Prop :=
  match n with
  | 0 => x.peer = x'.peer
  | 1 => x.session = x'.session
  | 2 => x.epoch = x'.epoch
  | 3 => x.count = x'.count
  | 4 => x.random = x'.random ∧ x.mark = x'.mark
  | _ => m = m'
theorem part_frame {n n2 : Nat} (hn : n < 6) (hn2 : n2 < 6) (h : n ≠ n2) (x : Pkt) (m l : List Int) (e : Int) (x' : Pkt) (m' : List Int) (ha : agree n x m x' m') : agree n (rdPart n2 x m l e).1 (rdPart n2 x m l e).2.1 x' m' := by
  match n2, hn2 with
  | 0, _ => match n, hn with | 0, _ => exact absurd rfl h | 1, _ => exact ha | 2, _ => exact ha | 3, _ => exact ha | 4, _ => exact ha | 5, _ => exact ha
  | 1, _ => match n, hn with | 0, _ => exact ha | 1, _ => exact absurd rfl h | 2, _ => exact ha | 3, _ => exact ha | 4, _ => exact ha | 5, _ => exact ha
  | 2, _ => match n, hn with | 0, _ => exact ha | 1, _ => exact ha | 2, _ => exact absurd rfl h | 3, _ => exact ha | 4, _ => exact ha | 5, _ => exact ha
  | 3, _ => match n, hn with | 0, _ => exact ha | 1, _ => exact ha | 2, _ => exact ha | 3, _ => exact absurd rfl h | 4, _ => exact ha | 5, _ => exact ha
  | 4, _ => match n, hn with | 0, _ => exact ha | 1, _ => exact ha | 2, _ => exact ha | 3, _ => exact ha | 4, _ => exact absurd rfl h | 5, _ => exact ha
  | 5, _ => match n, hn with | 0, _ => exact ha | 1, _ => exact ha | 2, _ => exact ha | 3, _ => exact ha | 4, _ => exact ha | 5, _ => exact absurd rfl h
theorem part_kind {n : Nat} (hn : n < 6) (x : Pkt) (m l : List Int) (e : Int) : (rdPart n x m l e).1.kind = x.kind := by
  match n, hn with
  | 0, _ => rfl
  | 1, _ => rfl
  | 2, _ => rfl
  | 3, _ => rfl
  | 4, _ => rfl
  | 5, _ => rfl
theorem put_agree {n : Nat} {x x' : Pkt} {m m' : List Int} (h : agree n x m x' m') : putS n x m = putS n x' m' := by
  unfold agree at h
  unfold putS
  split at h
  · simp only [h]
  · simp only [h]
  · simp only [h]
  · simp only [h]
  · simp only [h.1, h.2]
  · split <;> first | simp only [h] | (exfalso; simp_all; done)
theorem agree_refl (n : Nat) (x : Pkt) (m : List Int) : agree n x m x m := by
  unfold agree; split <;> first | rfl | exact ⟨rfl, rfl⟩
/-- What was put is read. -/
theorem part_fwd {n : Nat} (hn : n < 6) {x' : Pkt} {m' : List Int} (hx' : PktOk x') (hm : mayS n x' m'.length = true) (x : Pkt) (hr : x.random.length = 16 ∧ x.mark.length = 16) (m t : List Int) :
    (rdPart n x m (putS n x' m' ++ t) 0).2.2 = (t, 0) ∧ agree n (rdPart n x m (putS n x' m' ++ t) 0).1 (rdPart n x m (putS n x' m' ++ t) 0).2.1 x' m' := by
  match n, hn with
  | 0, _ =>
    simp only [mayS, Bool.and_eq_true, decide_eq_true_eq] at hm
    have hw : IntKind.u64.wrap x'.peer = x'.peer := IntWalk.u64_in _ (by omega)
    have h := rd_upto (x := x'.peer) (most := 65536) ⟨by omega, by omega⟩ hm.2 t
    simp only [putS, rdPart, agree, hw, h]
    exact ⟨trivial, trivial⟩
  | 1, _ =>
    have h := rd_num hx'.session t
    simp only [putS, rdPart, agree, h]
    exact ⟨trivial, trivial⟩
  | 2, _ =>
    have he := hx'.epoch
    have h := rd_upto (x := x'.epoch) (most := 4294967295) ⟨by omega, by omega⟩ (by omega) t
    simp only [putS, rdPart, agree, h]
    exact ⟨trivial, trivial⟩
  | 3, _ =>
    have h := rd_num hx'.count t
    simp only [putS, rdPart, agree, h]
    exact ⟨trivial, trivial⟩
  | 4, _ =>
    have h1 := rd_fixed x'.random (x'.mark ++ t) hx'.random
    have h2 := rd_fixed x'.mark t hx'.mark
    simp only [putS, rdPart, agree, List.append_assoc, h1, h2]
    exact ⟨trivial, overL_all (by rw [hx'.random, hr.1]), overL_all (by rw [hx'.mark, hr.2])⟩
  | 5, _ =>
    simp only [mayS, Bool.and_eq_true, decide_eq_true_eq] at hm
    have h := rd_block (m := m') (by omega) t
    simp only [putS, rdPart, agree, h]
    exact ⟨trivial, trivial⟩
/-- What was read was put. -/
theorem part_inv {n : Nat} (hn : n < 6) {x : Pkt} (hx : PktOk x) {m l : List Int} {e : Int} (hB : Bd 256 l) (h : (rdPart n x m l e).2.2.2 = 0) :
    e = 0 ∧ l = putS n (rdPart n x m l e).1 (rdPart n x m l e).2.1 ++ (rdPart n x m l e).2.2.1 := by
  match n, hn with
  | 0, _ =>
    have h1 := upto_inv hB (show rdUpto l e 65536 = ((rdUpto l e 65536).1, (rdUpto l e 65536).2.1, 0) from by rw [← show (rdUpto l e 65536).2.2 = 0 from h])
    refine ⟨h1.1, ?_⟩
    show l = numS (IntKind.u64.wrap (rdUpto l e 65536).1) ++ (rdUpto l e 65536).2.1
    rw [show IntKind.u64.wrap (rdUpto l e 65536).1 = (rdUpto l e 65536).1 from IntWalk.u64_in _ (by have := h1.2.2.1; unfold u64lim at this; omega)]
    exact h1.2.1
  | 1, _ =>
    have h1 := number_inv hB (show rdNumber l e = ((rdNumber l e).1, (rdNumber l e).2.1, 0) from by rw [← show (rdNumber l e).2.2 = 0 from h])
    exact ⟨h1.1, h1.2.1⟩
  | 2, _ =>
    have h1 := upto_inv hB (show rdUpto l e 4294967295 = ((rdUpto l e 4294967295).1, (rdUpto l e 4294967295).2.1, 0) from by rw [← show (rdUpto l e 4294967295).2.2 = 0 from h])
    exact ⟨h1.1, h1.2.1⟩
  | 3, _ =>
    have h1 := number_inv hB (show rdNumber l e = ((rdNumber l e).1, (rdNumber l e).2.1, 0) from by rw [← show (rdNumber l e).2.2 = 0 from h])
    exact ⟨h1.1, h1.2.1⟩
  | 4, _ =>
    obtain ⟨y, hy⟩ : ∃ y, y = rdFixed l e 16 := ⟨_, rfl⟩
    obtain ⟨z, hz⟩ : ∃ z, z = rdFixed y.2.1 y.2.2 16 := ⟨_, rfl⟩
    have hP : rdPart 4 x m l e = ({ x with random := overL x.random 0 y.1, mark := overL x.mark 0 z.1 }, m, z.2.1, z.2.2) := by rw [hz, hy]; rfl
    rw [hP] at h ⊢
    obtain ⟨y1, y2, y3⟩ := y
    obtain ⟨z1, z2, z3⟩ := z
    dsimp only at h hz ⊢
    subst h
    have h2 := fixed_inv hz.symm
    rw [h2.1] at hy
    have h1 := fixed_inv hy.symm
    refine ⟨h1.1, ?_⟩
    show l = (overL x.random 0 y1 ++ overL x.mark 0 z1) ++ z2
    rw [overL_all (by rw [h1.2.2, hx.random]), overL_all (by rw [h2.2.2, hx.mark]), h1.2.1, h2.2.1, List.append_assoc]
  | 5, _ =>
    have h1 := block_inv hB (show rdBlock l e = ((rdBlock l e).1, (rdBlock l e).2.1, 0) from by rw [← show (rdBlock l e).2.2 = 0 from h])
    exact ⟨h1.1, h1.2⟩
theorem hasS_inj (k : Int) {i j : Nat} (hi : i < (hasS k).length) (hj : j < (hasS k).length) (h : i ≠ j) : nth (hasS k) i ≠ nth (hasS k) j := by
  unfold hasS at hi hj ⊢
  split
  · rename_i e; rw [if_pos e] at hi hj
    exact (show ∀ i, i < 2 → ∀ j, j < 2 → i ≠ j → nth [0, 4] i ≠ nth [0, 4] j by decide) i hi j hj h
  rename_i e1
  split
  · rename_i e; rw [if_neg e1, if_pos e] at hi hj
    exact (show ∀ i, i < 3 → ∀ j, j < 3 → i ≠ j → nth [1, 2, 4] i ≠ nth [1, 2, 4] j by decide) i hi j hj h
  rename_i e2
  split
  · rename_i e; rw [if_neg e1, if_neg e2, if_pos e] at hi hj
    exact (show ∀ i, i < 4 → ∀ j, j < 4 → i ≠ j → nth [1, 2, 3, 5] i ≠ nth [1, 2, 3, 5] j by decide) i hi j hj h
  rename_i e3
  split
  · rename_i e; rw [if_neg e1, if_neg e2, if_neg e3, if_pos e] at hi hj; simp at hi hj; omega
  · rename_i e4; rw [if_neg e1, if_neg e2, if_neg e3, if_neg e4] at hi; simp at hi
theorem agree_symm {n : Nat} {x x' : Pkt} {m m' : List Int} (h : agree n x m x' m') : agree n x' m' x m := by
  unfold agree at h ⊢
  split at h <;> first | exact h.symm | exact ⟨h.1.symm, h.2.symm⟩
theorem parts_congr {x x' : Pkt} {m m' : List Int} {L : List Int} (k : Nat) (h : ∀ j, j < k → agree (nth L j).toNat x m x' m') : partsS x m L k = partsS x' m' L k := by
  induction k with
  | zero => rfl
  | succ k ih => rw [partsS_succ, partsS_succ, ih (fun j hj => h j (by omega)), put_agree (h k (by omega))]
theorem partsR_succ (L : List Int) (y : Pkt × List Int × List Int × Int) (k : Nat) : partsR L y (k + 1) = rdPart (nth L k).toNat (partsR L y k).1 (partsR L y k).2.1 (partsR L y k).2.2.1 (partsR L y k).2.2.2 := rfl
theorem partsR_kind {K : Int} {y : Pkt × List Int × List Int × Int} (k : Nat) (hk : k ≤ (hasS K).length) : (partsR (hasS K) y k).1.kind = y.1.kind := by
  induction k with
  | zero => rfl
  | succ k ih =>
    have h := hasS_lt (show k < (hasS K).length by omega)
    rw [partsR_succ, part_kind (by omega)]
    exact ih (by omega)
/-- All that was read was put. -/
theorem parts_inv {K : Int} {N : Nat} {y : Pkt × List Int × List Int × Int} (hy : RdAllOk N y) (k : Nat) (hk : k ≤ (hasS K).length) (h : (partsR (hasS K) y k).2.2.2 = 0) :
    y.2.2.2 = 0 ∧ y.2.2.1 = partsS (partsR (hasS K) y k).1 (partsR (hasS K) y k).2.1 (hasS K) k ++ (partsR (hasS K) y k).2.2.1 := by
  induction k with
  | zero => exact ⟨h, rfl⟩
  | succ k ih =>
    have hl := hasS_lt (show k < (hasS K).length by omega)
    have hn : (nth (hasS K) k).toNat < 6 := by omega
    have hok := partsR_ok (L := hasS K) (fun i hi => hasS_lt hi) hy k (by omega)
    have hp := part_inv hn hok.pkt (m := (partsR (hasS K) y k).2.1) (e := (partsR (hasS K) y k).2.2.2) hok.left (by rw [← partsR_succ]; exact h)
    have hi := ih (by omega) hp.1
    refine ⟨hi.1, ?_⟩
    rw [hi.2]
    conv => lhs; rw [hp.2]
    rw [← partsR_succ, partsS_succ, List.append_assoc]
    congr 1
    refine parts_congr k fun j hj => ?_
    have hlj := hasS_lt (show j < (hasS K).length by omega)
    rw [partsR_succ]
    have hne := hasS_inj K (show j < (hasS K).length by omega) (show k < (hasS K).length by omega) (by omega)
    exact agree_symm (part_frame (by omega) (by omega) (by omega) _ _ _ _ _ _ (agree_refl _ _ _))
/-- What was put part by part is read. -/
theorem parts_fwd {K : Int} {x' : Pkt} {m' : List Int} (hx' : PktOk x') (hm : ∀ i, i < (hasS K).length → mayS (nth (hasS K) i).toNat x' m'.length = true) {x : Pkt} (hx : PktOk x) {m : List Int} (t l : List Int)
    (hB : RdAllOk l.length (x, m, l, 0)) (k : Nat) (hk : k ≤ (hasS K).length) (u : List Int) (hl : l = partsS x' m' (hasS K) k ++ u) :
    (partsR (hasS K) (x, m, l, 0) k).2.2 = (u, 0) ∧ ∀ j, j < k → agree (nth (hasS K) j).toNat (partsR (hasS K) (x, m, l, 0) k).1 (partsR (hasS K) (x, m, l, 0) k).2.1 x' m' := by
  induction k generalizing u with
  | zero => subst hl; exact ⟨rfl, fun j hj => absurd hj (by omega)⟩
  | succ k ih =>
    have hlk := hasS_lt (show k < (hasS K).length by omega)
    have hn : (nth (hasS K) k).toNat < 6 := by omega
    rw [partsS_succ, List.append_assoc] at hl
    have hi := ih (by omega) _ hl
    have hok := partsR_ok (L := hasS K) (fun i hi => hasS_lt hi) hB k (by omega)
    have hf := part_fwd hn hx' (hm k (by omega)) (partsR (hasS K) (x, m, l, 0) k).1 ⟨hok.pkt.random, hok.pkt.mark⟩ (partsR (hasS K) (x, m, l, 0) k).2.1 u
    have e1 : (partsR (hasS K) (x, m, l, 0) k).2.2.1 = putS (nth (hasS K) k).toNat x' m' ++ u := by rw [hi.1]
    have e2 : (partsR (hasS K) (x, m, l, 0) k).2.2.2 = 0 := by rw [hi.1]
    rw [partsR_succ, e1, e2]
    refine ⟨hf.1, fun j hj => ?_⟩
    by_cases e : j = k
    · subst e; exact hf.2
    · have hlj := hasS_lt (show j < (hasS K).length by omega)
      have hne := hasS_inj K (show j < (hasS K).length by omega) (show k < (hasS K).length by omega) e
      exact part_frame (by omega) hn (by omega) _ _ _ _ _ _ (hi.2 j (by omega))
end Go.Proofs.YtjieiijbgbkikaaDoor
end
section
/- A packet is its bytes: no program is used here. -/
namespace Go.Proofs.YtjieiijbgbkikaaDoor
open Go Go.RowKit
set_option maxRecDepth 100000
theorem check_parts {x : Pkt} {bl : Nat} (h : checkS x bl = 0) : hasS x.kind ≠ [] ∧ ∀ k, k < 6 → partOk x bl k = true := by
  unfold checkS at h
  split at h
  · cases h
  · rename_i h1
    split at h
    · rename_i h6; exact ⟨h1, fun k hk => okTo_le h6 hk⟩
    · cases h
theorem hasS_kind {k : Int} (h : hasS k ≠ []) : 1 ≤ k ∧ k ≤ 4 := by
  unfold hasS at h
  split at h
  · omega
  split at h
  · omega
  split at h
  · omega
  split at h
  · omega
  · exact absurd rfl h
theorem parts_frame {K : Int} {y : Pkt × List Int × List Int × Int} {n : Nat} (hn : n < 6) {x' : Pkt} {m' : List Int} (h : agree n y.1 y.2.1 x' m') (k : Nat) (hk : k ≤ (hasS K).length) (hj : ∀ j, j < k → nth (hasS K) j ≠ (n : Int)) :
    agree n (partsR (hasS K) y k).1 (partsR (hasS K) y k).2.1 x' m' := by
  induction k with
  | zero => exact h
  | succ k ih =>
    have hlk := hasS_lt (show k < (hasS K).length by omega)
    have h1 := hj k (by omega)
    rw [partsR_succ]
    exact part_frame hn (by omega) (by omega) _ _ _ _ _ _ (ih (by omega) fun j hj' => hj j (by omega))
theorem agree_all {x x' : Pkt} {m m' : List Int} (hk : x.kind = x'.kind) (h : ∀ n, n < 6 → agree n x m x' m') : x = x' ∧ m = m' := by
  have h0 := h 0 (by decide)
  have h1 := h 1 (by decide)
  have h2 := h 2 (by decide)
  have h3 := h 3 (by decide)
  have h4 := h 4 (by decide)
  have h5 := h 5 (by decide)
  simp only [agree] at h0 h1 h2 h3 h4 h5
  obtain ⟨a, b, c, d, e, f, g⟩ := x
  obtain ⟨a', b', c', d', e', f', g'⟩ := x'
  simp_all
theorem numS_nil_len (x : Int) : 0 < (numS x).length := by rw [numS_len]; omega
/-- Read of Bytes is the packet, with whatever follows left. -/
theorem read_write {x : Pkt} (hx : PktOk x) {m : List Int} (hmB : Bd 256 m) (hc : checkS x m.length = 0) {t : List Int} (htB : Bd 256 t) : readS (writeS x m ++ t) = (x, m, t, 0) := by
  obtain ⟨hne, hp⟩ := check_parts hc
  have hk := hasS_kind hne
  have hm1 := checkS_ok hc
  have hw : IntKind.u64.wrap x.kind = x.kind := IntWalk.u64_in _ (by omega)
  have hu := rd_upto (x := x.kind) (most := 9) ⟨by omega, by omega⟩ (by omega) (partsS x m (hasS x.kind) (hasS x.kind).length ++ t)
  have hB : Bd 256 (partsS x m (hasS x.kind) (hasS x.kind).length ++ t) := (partsS_bd hx (by omega) hmB _ _).append (by decide) htB
  unfold readS writeS
  rw [hw, List.append_assoc, hu]
  dsimp only
  obtain ⟨l, hl⟩ : ∃ l, l = partsS x m (hasS x.kind) (hasS x.kind).length ++ t := ⟨_, rfl⟩
  rw [← hl] at hB ⊢
  have hmay : ∀ i, i < (hasS x.kind).length → mayS (nth (hasS x.kind) i).toNat x m.length = true := fun i hi => by
    have h1 := hasS_lt hi
    have h2 := hp (nth (hasS x.kind) i).toNat (by omega)
    unfold partOk at h2
    rw [if_pos (by rw [decide_eq_true_eq, Int.toNat_of_nonneg h1.1]; exact nth_mem hi)] at h2
    exact h2
  have hf := parts_fwd (K := x.kind) hx hmay (x := { pkt0 with kind := x.kind }) (pkt0_ok _) (m := []) t l ⟨pkt0_ok _, by simp, Bd.nil (by decide), hB, Nat.le_refl _⟩ (hasS x.kind).length (Nat.le_refl _) t hl
  obtain ⟨hf1, hf2⟩ := hf
  have hkk := partsR_kind (K := x.kind) (y := ({ pkt0 with kind := x.kind }, [], l, 0)) (hasS x.kind).length (Nat.le_refl _)
  have hall : ∀ n, n < 6 → agree n (partsR (hasS x.kind) ({ pkt0 with kind := x.kind }, [], l, 0) (hasS x.kind).length).1 (partsR (hasS x.kind) ({ pkt0 with kind := x.kind }, [], l, 0) (hasS x.kind).length).2.1 x m := fun n hn => by
    by_cases hin : (n : Int) ∈ hasS x.kind
    · obtain ⟨j, hj, e⟩ := List.mem_iff_getElem.1 hin
      have h1 := hf2 j hj
      rw [nth_lt hj, e, Int.toNat_natCast] at h1
      exact h1
    · refine parts_frame hn ?_ _ (Nat.le_refl _) fun j hj e => hin (by rw [← e]; exact nth_mem hj)
      have h2 := hp n hn
      unfold partOk at h2
      rw [if_neg (by simpa using hin)] at h2
      match n, hn with
      | 0, _ => simp only [zeroS, decide_eq_true_eq] at h2; exact h2.symm
      | 1, _ => simp only [zeroS, decide_eq_true_eq] at h2; exact h2.symm
      | 2, _ => simp only [zeroS, decide_eq_true_eq] at h2; exact h2.symm
      | 3, _ => simp only [zeroS, decide_eq_true_eq] at h2; exact h2.symm
      | 4, _ => simp only [zeroS, Bool.and_eq_true, decide_eq_true_eq] at h2; exact ⟨h2.1.symm, h2.2.symm⟩
      | 5, _ => simp only [zeroS, decide_eq_true_eq] at h2; exact (List.length_eq_zero_iff.1 h2).symm
  obtain ⟨e1, e2⟩ := agree_all (x' := x) (m' := m) hkk hall
  generalize partsR (hasS x.kind) ({ pkt0 with kind := x.kind }, [], l, 0) (hasS x.kind).length = y at *
  obtain ⟨y1, y2, y3⟩ := y
  dsimp only at e1 e2 hf1
  rw [e1, e2, hf1]
theorem rdEnd_zero {l : List Int} {e : Int} (h : rdEnd l e = 0) : e = 0 ∧ l = [] := by
  unfold rdEnd at h
  split at h
  · exact absurd h (by assumption)
  · rename_i h0
    split at h
    · cases h
    · rename_i h1
      exact ⟨by simpa using h0, List.length_eq_zero_iff.1 (by omega)⟩
/-- Whatever bytes are read are encoded as exactly these. -/
theorem write_read {l : List Int} (hB : Bd 256 l) (h : readErr l = 0) : writeS (readS l).1 (readS l).2.1 = l ∧ checkS (readS l).1 (readS l).2.1.length = 0 := by
  unfold readErr at h
  split at h
  rotate_left
  · cases h
  rename_i h1
  obtain ⟨he, hc⟩ := h1
  obtain ⟨h0, hl⟩ := rdEnd_zero he
  refine ⟨?_, hc⟩
  have hup := rdUpto_ok hB 0 9
  obtain ⟨r, hr⟩ : ∃ r, r = rdUpto l 0 9 := ⟨_, rfl⟩
  have hS : readS l = partsR (hasS r.1) ({ pkt0 with kind := r.1 }, [], r.2.1, r.2.2) (hasS r.1).length := by rw [hr]; rfl
  rw [← hr] at hup
  have hkk := partsR_kind (K := r.1) (y := ({ pkt0 with kind := r.1 }, [], r.2.1, r.2.2)) (hasS r.1).length (Nat.le_refl _)
  have hi := parts_inv (K := r.1) (N := l.length) (y := ({ pkt0 with kind := r.1 }, [], r.2.1, r.2.2)) ⟨pkt0_ok _, by simp, Bd.nil (by decide), hup.2.1, hup.2.2⟩ (hasS r.1).length (Nat.le_refl _) (by rw [← hS]; exact h0)
  rw [← hS] at hkk hi
  obtain ⟨r1, r2, r3⟩ := r
  dsimp only at hkk hi
  obtain ⟨hi1, hi2⟩ := hi
  subst hi1
  have hinv := upto_inv hB hr.symm
  rw [hl, List.append_nil] at hi2
  unfold writeS
  have hkk' : (readS l).1.kind = r1 := hkk
  rw [hkk', ← hi2, show IntKind.u64.wrap r1 = r1 from IntWalk.u64_in _ (by have := hinv.2.2.1; unfold u64lim at this; omega)]
  exact hinv.2.1.symm
theorem numS_inj {a b : Int} {s t : List Int} (ha : u64lim a) (hb : u64lim b) (h : numS a ++ s = numS b ++ t) : a = b ∧ s = t := by
  have h1 := rd_num ha s
  rw [h, rd_num hb t] at h1
  simp only [Prod.mk.injEq, and_true] at h1
  exact ⟨h1.1.symm, h1.2.symm⟩
/-- The bytes of a PktData without its body. -/
theorem write3 {x : Pkt} (hk : x.kind = 3) : writeS x [] = numS 3 ++ (numS x.session ++ (numS x.epoch ++ (numS x.count ++ blkS []))) := by
  have h3 : hasS x.kind = [1, 2, 3, 5] := by rw [hk]; rfl
  unfold writeS
  rw [h3, hk]
  show numS (IntKind.u64.wrap 3) ++ ((((([] : List Int) ++ numS x.session) ++ numS x.epoch) ++ numS x.count) ++ blkS []) = _
  rw [show IntKind.u64.wrap 3 = 3 from IntWalk.u64_in _ (by omega)]
  simp only [List.nil_append, List.append_assoc]
theorem write3_iff {x y : Pkt} (hx : PktOk x) (hy : PktOk y) (hkx : x.kind = 3) (hky : y.kind = 3) : writeS x [] = writeS y [] ↔ x.session = y.session ∧ x.epoch = y.epoch ∧ x.count = y.count := by
  rw [write3 hkx, write3 hky]
  constructor
  · intro h
    have e1 := hx.epoch
    have e2 := hy.epoch
    have h1 := numS_inj (a := 3) (b := 3) ⟨by decide, by decide⟩ ⟨by decide, by decide⟩ h
    have h2 := numS_inj hx.session hy.session h1.2
    have h3 := numS_inj ⟨by omega, by omega⟩ ⟨by omega, by omega⟩ h2.2
    have h4 := numS_inj hx.count hy.count h3.2
    exact ⟨h2.1, h3.1, h4.1⟩
  · rintro ⟨h1, h2, h3⟩
    rw [h1, h2, h3]
end Go.Proofs.YtjieiijbgbkikaaDoor
end
section
/- Law 9: lives. -/
namespace Go.Proofs.YtjieiijbgbkikaaDoor
open Go Go.RowKit
set_option maxRecDepth 100000
attribute [local go_sem] cell?_eq frozen?_eq heap_setCell_eq heap_setCell_ne
theorem check3_len {x : Pkt} {bl bl' : Nat} (hk : x.kind = 3) (h : checkS x bl = 0) (h0 : 16 ≤ bl') (h1 : bl' ≤ 65552) : checkS x bl' = 0 := by
  unfold checkS at h ⊢
  split at h
  · cases h
  · rename_i hne
    rw [if_neg hne]
    split at h
    · rename_i h6
      rw [if_pos]
      refine okTo_of (bl := bl) (fun k hk6 hp => ?_) 6 (Nat.le_refl _) h6
      unfold partOk at hp ⊢
      match k, hk6 with
      | 0, _ => exact hp
      | 1, _ => exact hp
      | 2, _ => exact hp
      | 3, _ => exact hp
      | 4, _ => exact hp
      | 5, _ =>
        have h5 : ((5 : Nat) : Int) ∈ hasS x.kind := by rw [hk]; decide
        rw [if_pos (by simpa using h5)]
        simp [mayS, h0, h1]
    · cases h
theorem pseal_ok {session epoch n : Int} {pl : Nat} (h : psealErr session epoch n pl = 0) : pl ≤ 65536 ∧ checkS (sealX session epoch n) 16 = 0 := by
  unfold psealErr at h
  split at h
  · cases h
  · rename_i h1
    split at h
    · rename_i h2
      unfold alongOk at h2
      simp only [Bool.and_eq_true, decide_eq_true_eq] at h2
      exact ⟨by omega, h2.2⟩
    · cases h
theorem psealS_len (secret : List Int) (way session epoch n : Int) (plain : List Int) : (psealS secret way session epoch n plain).length = plain.length + 16 := sealS_len ..
theorem psealS_bd (secret : List Int) (way session epoch n : Int) (plain : List Int) : Bd 256 (psealS secret way session epoch n plain) := sealS_bd _ _ _ _
/-- What was sealed is opened. -/
theorem popen_pseal (secret : List Int) (way session epoch n : Int) {plain : List Int} (hp : Bd 256 plain) : popenOk secret way (sealX session epoch n) (psealS secret way session epoch n plain) = true ∧ popenS secret way (sealX session epoch n) (psealS secret way session epoch n plain) = plain :=
  ⟨tag_seal _ _ _ _, open_seal _ _ _ hp⟩
theorem popen_kind {session epoch n : Int} {pl : Nat} (h : psealErr session epoch n pl = 0) : popenKind (sealX session epoch n) (pl + 16) = 0 := by
  obtain ⟨h1, h2⟩ := pseal_ok h
  have h3 := check3_len (x := sealX session epoch n) rfl h2 (bl' := pl + 16) (by omega) (by omega)
  unfold popenKind
  rw [if_neg (by simpa using h3)]
  exact if_pos rfl
def sec1 : List Int := [1, 0, 0, 0, 0, 0, 0, 0, 0, 0, 0, 0, 0, 0, 0, 0, 0, 0, 0, 0, 0, 0, 0, 0, 0, 0, 0, 0, 0, 0, 0, 0]
def helloS : List Int := [104, 101, 108, 108, 111]
theorem sec1_bd : Bd 256 sec1 := Bd.of_mem (by decide) (by decide)
theorem helloS_bd : Bd 256 helloS := Bd.of_mem (by decide) (by decide)
def whoX : Pkt := { pkt0 with kind := 4, session := 5 }
theorem whoX_ok : PktOk whoX := ⟨⟨by decide, by decide⟩, ⟨by decide, by decide⟩, ⟨by decide, by decide⟩, zerosL_len _, zerosL_len _, Bd.zerosL (by decide) _, Bd.zerosL (by decide) _⟩
theorem whoX_check : checkS whoX 0 = 0 := by decide
theorem whoX_write : writeS whoX [] = [1, 4, 1, 5] := by kernel_rfl
theorem pseal9 : psealErr 9 1 1 5 = 0 := by decide
set_option maxHeartbeats 8000000 in
theorem lives9_any (w : World) (hR : Rnd w) (hC : Cols w) : Calls Tryd.prog 9 #[] w fun e w' => e = .returned (.bool true) ∧ Below w.heap.size w w' := by
  have hRlt := Lib.hid hR.lt
  have hClt := Lib.hid hC.lt
  go_enter Tryd.func9, Tryd.ntmps9
  go_wp2_with (first | (refine bd_eq rfl (ty := 27) rfl (v := .agg (pktC whoX (.slice none 0 0))) (by kernel_rfl) ?_) | (go_at_call 17; fail))
  refine (bytes_any whoX whoX_ok [] none 0 (by simp) w (SL.nil _ _ _)).mono ?_
  rintro e w1 ⟨v1, c1, rfl, hc1, ho1, _, hB1⟩
  have e1 : c1 = 0 := hc1.trans whoX_check
  subst e1
  have hO1 := ho1 rfl
  rw [whoX_write] at hO1
  obtain ⟨p1, cp1, rfl, hS1, _⟩ := hO1.form
  clear ho1 hc1 hO1
  have hx5 : SL .u8 ((w1.alloc (.cells (ints .u8 helloS) 5 (5, 6)))) (some ⟨w1.heap.size, 0, none⟩) helloS := SL.row_all (blk1_0 _ _)
  have HX5 := Lib.hid hx5
  have hcv : (convert 25 25 (.slice (some ⟨w1.heap.size, 0, none⟩) 5 5)).run Tryd.prog (w1.alloc (.cells #[.int .u8 104, .int .u8 101, .int .u8 108, .int .u8 108, .int .u8 111] 5)) = .ok (.slice (some ⟨w1.heap.size, 0, none⟩) 5 5) (w1.alloc (.cells (ints .u8 helloS) 5 (5, 6))) := Lib.run_convert_bytes_const w1 25 5 (ints .u8 helloS) 5 5 Tryd.underlying25 Tryd.underlying5
  go_wp2_with (first | (refine bd_eq rfl (ty := 31) rfl (v := .agg (ints .u8 sec1)) (by kernel_rfl) ?_) | (go_at_call 8; fail))
  have hB2 : Below w.heap.size w (w1.alloc (.cells (ints .u8 helloS) 5 (5, 6))) := hB1.alloc hB1.size _
  refine (pseal_any sec1 rfl sec1_bd 1 9 1 1 ⟨by decide, by decide⟩ ⟨by decide, by decide⟩ ⟨by decide, by decide⟩ helloS (some ⟨w1.heap.size, 0, none⟩) 5 (w1.alloc (.cells (ints .u8 helloS) 5 (5, 6))) (hR.below hB2 hRlt.out) (hC.below hB2 hClt.out) HX5.out).mono ?_
  intro e w2 hP
  unfold PSealPost at hP
  rw [if_pos (show psealErr 9 1 1 helloS.length = 0 from pseal9)] at hP
  obtain ⟨⟨vb, rfl, hW2⟩, hB3⟩ := hP
  have hBw2 := hB2.trans (hB3.mono hB2.size)
  have hS2 := (hS1.alloc (.cells (ints .u8 helloS) 5 (5, 6))).below hB3
  have hsl := psealS_len sec1 1 9 1 1 helloS
  have hsb := psealS_bd sec1 1 9 1 1 helloS
  have hopen := popen_pseal sec1 1 9 1 1 helloS_bd
  have hkind : popenKind (sealX 9 1 1) (psealS sec1 1 9 1 1 helloS).length = 0 := by rw [hsl]; exact popen_kind (show psealErr 9 1 1 helloS.length = 0 from pseal9)
  obtain ⟨C, hC5⟩ : ∃ C, C = psealS sec1 1 9 1 1 helloS := ⟨_, rfl⟩
  rw [← hC5] at hW2 hsl hsb hopen hkind
  have hxk : PktOk (sealX 9 1 1) := sealX_ok ⟨by decide, by decide⟩ ⟨by decide, by decide⟩ ⟨by decide, by decide⟩
  obtain ⟨x, hx⟩ : ∃ x, x = sealX 9 1 1 := ⟨_, rfl⟩
  rw [← hx] at hopen hkind hxk ⊢
  obtain ⟨g2, c2, rfl, hg2, hc2, hSC⟩ := hW2.sl
  have HW2 := Lib.hid hW2
  have hl21 : C.length = 21 := hsl
  have HO := Lib.hid hopen
  have HK := Lib.hid hkind
  clear hopen hkind hx hC5 hB3 hB2 hcv HX5 hW2 hS1 hB1 hsl
  rw [hl21] at hc2 ⊢
  go_wp2_with (first | (refine al_abs rfl (T := 27) rfl (cs := pktC pkt0 (.slice none 0 0)) (by kernel_rfl) ?_; intro w3 X hX3 hB3 hzX hzX') | (refine st_row rfl (ty := 27) (cs := pktC x (.slice (some ⟨g2, 0, none⟩) 21 c2)) rfl rfl rfl (by exact hX3) (n := 38) (by kernel_rfl) (pktC_size _ _) (pktC_size _ _) (pktC_one _ _ rfl) ?_; have hX4 := setRow_heap w3 X _ (pktC x (.slice (some ⟨g2, 0, none⟩) 21 c2)) _ _ hX3; have hk4 : Kep (fun b => b = X) w2 (w3.setRow X (pktC x (.slice (some ⟨g2, 0, none⟩) 21 c2))) := Kep.setRow (S := fun b => b = X) (g := X) (Kep.of_below hB3 (fun b hb _ => hb)) (.inl rfl) _; generalize w3.setRow X (pktC x (.slice (some ⟨g2, 0, none⟩) 21 c2)) = w4 at *; clear hX3 hB3) | (refine bd_eq rfl (ty := 31) rfl (v := .agg (ints .u8 sec1)) (by kernel_rfl) ?_) | (refine ld_row rfl (ty := 27) rfl rfl hX4 Tryd.underlying27 rfl (by kernel_rfl) (pktC_size _ _) ?_) | (go_at_call 10; fail))
  have hSC4 : SL .u8 w4 (some ⟨g2, 0, none⟩) C := hSC.kep hk4 (fun a ha hl e => by have := hSC.lt hl a ha; omega)
  have hS4 : SL .u8 w4 p1 [1, 4, 1, 5] := hS2.kep hk4 (fun a ha hl e => by have := hS2.lt hl a ha; omega)
  have hBw4 := hk4.below hBw2 hBw2.size (fun k e => by have := hBw2.size; omega)
  clear hk4 hBw2 hSC hS2 HW2
  have hcall := popen_any sec1 rfl sec1_bd 1 x hxk C hsb (by omega) (some ⟨g2, 0, none⟩) c2 (by omega) w4 (hR.below hBw4 hRlt.out) (hC.below hBw4 hClt.out) hSC4
  rw [hl21] at hcall
  refine hcall.mono ?_
  clear hcall
  intro e w5 hP
  unfold POpenPost OpenPost at hP
  rw [if_pos HK.out, HO.out.1, if_pos rfl, HO.out.2] at hP
  obtain ⟨v5, rfl, hO5, hB5⟩ := hP
  obtain ⟨p5, c5, rfl, hS5, _⟩ := hO5.form
  have hX5 := below_blk hB5 (show w4.heap[X]? = _ from hX4)
  have hS6 := hS4.below hB5
  have hBf := hBw4.trans (hB5.mono hBw4.size)
  have cv1 := run_str (P := Tryd.prog) (dst := 9) Tryd.underlying25 Tryd.underlying5 Tryd.underlying9 hS6 4 cp1 rfl
  have cv2 := run_str (P := Tryd.prog) (dst := 9) Tryd.underlying25 Tryd.underlying5 Tryd.underlying9 hS5 5 c5 rfl
  have hlh : helloS.length = 5 := rfl
  rw [hlh]
  clear hS4 hS6 hS5 hO5 hSC4 hBw4 hX4 hB5
  have q1 : (strOfNums [1, 4, 1, 5]).toList = [1, 4, 1, 5] := by rw [ByteArray.toList_eq]; rfl
  have q2 : (strOfNums helloS).toList = [104, 101, 108, 108, 111] := by rw [ByteArray.toList_eq]; rfl
  go_wp2
  go_ret
  exact ⟨rfl, hBf⟩
end Go.Proofs.YtjieiijbgbkikaaDoor
end
section
/- Law 9: PacketNames, the walk. -/
namespace Go.Proofs.YtjieiijbgbkikaaDoor
open Go Go.RowKit
set_option maxRecDepth 100000
attribute [local go_sem] cell?_eq frozen?_eq heap_setCell_eq heap_setCell_ne
theorem xor1_ne {a : Int} (a0 : 0 ≤ a) (a1 : a < 256) : bits .xor .u8 a 1 ≠ a := by
  rw [u8_xor a 1 a0 a1 (by decide) (by decide)]
  intro h
  have h1 : a.toNat ^^^ 1 = a.toNat := by
    have : (1 : Int).toNat = 1 := rfl
    rw [this] at h
    omega
  have h2 : a.toNat ^^^ (a.toNat ^^^ 1) = 0 := by rw [h1, Nat.xor_self]
  rw [← Nat.xor_assoc, Nat.xor_self, Nat.zero_xor] at h2
  cases h2
/-- Where the tag is changed nothing is opened. -/
theorem tag_flip (key nonce plain along : List Int) {i : Nat} (hi : i < 16) {y : Int} (hy0 : 0 ≤ y) (hy1 : y < 256) (hne : y ≠ nth (sealS key nonce plain along) (plain.length + i)) :
    tagOk key nonce ((sealS key nonce plain along).set (plain.length + i) y) along = false := by
  have hb := sealS_bd key nonce plain along
  have hlen := sealS_len key nonce plain along
  cases hc : tagOk key nonce ((sealS key nonce plain along).set (plain.length + i) y) along with
  | false => rfl
  | true =>
    exfalso
    unfold tagOk at hc
    rw [List.length_set, hlen, Nat.add_sub_cancel] at hc
    have h1 : ((sealS key nonce plain along).set (plain.length + i) y).take plain.length = xorS key nonce 1 plain := by
      have h2 := sealS_take key nonce plain along
      rw [hlen, Nat.add_sub_cancel] at h2
      rw [List.take_set_of_le (by omega), h2]
    rw [h1] at hc
    have h3 := (equalS_iff (aeadT_bd _ _ _ _) ((hb.set (plain.length + i) y hy0 hy1).drop (by decide) plain.length) (aeadT_len ..) (by rw [List.length_drop, List.length_set, hlen]; omega)).1 hc
    have h4 := congrArg (fun l => nth l i) h3
    simp only [nth_drop] at h4
    rw [nth_set_eq _ (by rw [hlen]; omega)] at h4
    have h5 := sealS_drop key nonce plain along
    rw [hlen, Nat.add_sub_cancel] at h5
    rw [← h5, nth_drop] at h4
    exact hne h4.symm
theorem popen_flip (secret : List Int) (way session epoch n : Int) {plain : List Int} {i : Nat} (hi : i < 16) {y : Int} (hy0 : 0 ≤ y) (hy1 : y < 256) (hne : y ≠ nth (psealS secret way session epoch n plain) (plain.length + i)) :
    popenOk secret way (sealX session epoch n) ((psealS secret way session epoch n plain).set (plain.length + i) y) = false := tag_flip _ _ _ _ hi hy0 hy1 hne
theorem Wr.cell {base : Nat} {w : World} {v : Value} {l : List Int} (h : Wr base w v l) {i : Nat} (hi : i < l.length) : ∃ g cap cur, v = .slice (some ⟨g, 0, none⟩) l.length cap ∧ base ≤ g ∧ l.length ≤ cap ∧ w.heap[g]? = some (.cells cur 5 (0, 0)) ∧ cur[i]? = some (.int .u8 (nth l i)) ∧
    ∀ y w', w'.heap[g]? = some (.cells (cur.setIfInBounds i (.int .u8 y)) 5 (0, 0)) → SL .u8 w' (some ⟨g, 0, none⟩) (l.set i y) := by
  obtain ⟨g, cap, cur, rfl, hb, hg, hle, hc, ht⟩ := h
  have hcell : ∀ j, j < l.length → cur[j]? = some (.int .u8 (nth l j)) := fun j hj => by
    have h1 : (cur.toList.take l.length)[j]? = (l.map (Value.int .u8))[j]? := by rw [ht]
    rw [List.getElem?_take_of_lt hj, List.getElem?_map] at h1
    rw [← Array.getElem?_toList, h1, nth_lt hj]
    simp [hj]
  refine ⟨g, cap, cur, rfl, hb, hle, hg, hcell i hi, fun y w' hw' => .inr ⟨g, 0, rfl, fun j hj => ?_⟩⟩
  rw [List.length_set] at hj
  rw [cell?_eq, hw', cellOf_some, Nat.zero_add]
  by_cases e : i = j
  · subst e
    rw [nth_set_eq _ hj, Array.getElem?_setIfInBounds_self_of_lt (by omega)]
  · rw [nth_set_ne _ e, Array.getElem?_setIfInBounds_ne e, hcell j hj]
section
variable {P : Program} {ops : Array Oper} {rest : List Oper} {o : Oper} {a : Act} {w : World} {Q : Exit → Act → World → Prop}
/-- A value that a guarded operation builds, given as an equation. -/
theorem bd_g (hw : Region.wanted o (yielded ops a.tmps) = true) {ty : TypeId} {ps : Array (Nat × Operand)} (_ho : o.op = .build ty ps) {v : Value} (h1 : (execOp a.eval o).run P w = .ok (.value v) w) (h : wpList P ops Q rest (a.put o.dst v) w) : wpList P ops Q (o :: rest) a w := by
  refine wpList_wanted hw fun K hK => ?_
  unfold Oper.wp
  rw [h1]
  exact hK _ _ h
end
def sec0 : List Int := [0, 0, 0, 0, 0, 0, 0, 0, 0, 0, 0, 0, 0, 0, 0, 0, 0, 0, 0, 0, 0, 0, 0, 0, 0, 0, 0, 0, 0, 0, 0, 0]
theorem sec0_bd : Bd 256 sec0 := Bd.of_mem (by decide) (by decide)
theorem pseal_0 : psealErr 0 1 1 0 = 2 := by decide
theorem pseal_long (s e n : Int) {pl : Nat} (h : 65536 < pl) : psealErr s e n pl = 3 := by unfold psealErr; rw [if_pos h]
theorem pkt0_check : checkS pkt0 0 = 2 := by decide
set_option maxHeartbeats 16000000 in
theorem names9_any (w : World) (hR : Rnd w) (hC : Cols w) : Calls Tryd.prog 3 #[] w fun e w' => e = .returned (.bool true) ∧ Below w.heap.size w w' := by
  have hRlt := Lib.hid hR.lt
  have hClt := Lib.hid hC.lt
  have hx5 : SL .u8 ((w.alloc (.cells (ints .u8 helloS) 5 (5, 6)))) (some ⟨w.heap.size, 0, none⟩) helloS := SL.row_all (blk1_0 _ _)
  have hcv : (convert 25 25 (.slice (some ⟨w.heap.size, 0, none⟩) 5 5)).run Tryd.prog (w.alloc (.cells #[.int .u8 104, .int .u8 101, .int .u8 108, .int .u8 108, .int .u8 111] 5)) = .ok (.slice (some ⟨w.heap.size, 0, none⟩) 5 5) (w.alloc (.cells (ints .u8 helloS) 5 (5, 6))) := Lib.run_convert_bytes_const w 25 5 (ints .u8 helloS) 5 5 Tryd.underlying25 Tryd.underlying5
  go_enter Tryd.func3, Tryd.ntmps3
  go_wp2_with (first | (refine bd_eq rfl (ty := 31) rfl (v := .agg (ints .u8 sec1)) (by kernel_rfl) ?_) | (go_at_call 8; fail))
  have hB2 : Below w.heap.size w (w.alloc (.cells (ints .u8 helloS) 5 (5, 6))) := (Below.refl _ w).alloc (Nat.le_refl _) _
  refine (pseal_any sec1 rfl sec1_bd 0 9 1 1 ⟨by decide, by decide⟩ ⟨by decide, by decide⟩ ⟨by decide, by decide⟩ helloS (some ⟨w.heap.size, 0, none⟩) 5 (w.alloc (.cells (ints .u8 helloS) 5 (5, 6))) (hR.below hB2 hRlt.out) (hC.below hB2 hClt.out) hx5).mono ?_
  intro e w2 hP
  unfold PSealPost at hP
  rw [if_pos (show psealErr 9 1 1 helloS.length = 0 from pseal9)] at hP
  obtain ⟨⟨vb, rfl, hW2⟩, hB3⟩ := hP
  have hBw2 := hB2.trans (hB3.mono hB2.size)
  have hsl := psealS_len sec1 0 9 1 1 helloS
  have hsb := psealS_bd sec1 0 9 1 1 helloS
  have hflip := fun y => popen_flip sec1 0 9 1 1 (plain := helloS) (i := 15) (by decide) (y := y)
  have hkind : popenKind (sealX 9 1 1) (psealS sec1 0 9 1 1 helloS).length = 0 := by rw [hsl]; exact popen_kind (show psealErr 9 1 1 helloS.length = 0 from pseal9)
  have h20 : helloS.length + 15 = 20 := rfl
  rw [h20] at hflip
  obtain ⟨C, hC5⟩ : ∃ C, C = psealS sec1 0 9 1 1 helloS := ⟨_, rfl⟩
  rw [← hC5] at hW2 hsl hsb hflip hkind
  have hxk : PktOk (sealX 9 1 1) := sealX_ok ⟨by decide, by decide⟩ ⟨by decide, by decide⟩ ⟨by decide, by decide⟩
  obtain ⟨x, hx⟩ : ∃ x, x = sealX 9 1 1 := ⟨_, rfl⟩
  rw [← hx] at hflip hkind hxk ⊢
  have hl21 : C.length = 21 := hsl
  have HF := Lib.hid hflip
  have HK := Lib.hid hkind
  obtain ⟨g2, c2, cur, rfl, hg2, hc2, hgc, hcur, hset⟩ := hW2.cell (i := 20) (by omega)
  have HS := Lib.hid hset
  have hc20 := hsb 20
  clear hflip hkind hx hC5 hB3 hB2 hcv hx5 hsl hset hW2
  rw [hl21] at hc2 ⊢
  go_wp2_with (first | (refine al_abs rfl (T := 27) rfl (cs := pktC pkt0 (.slice none 0 0)) (by kernel_rfl) ?_; intro w3 X hX3 hB3 hzX hzX') | (refine st_row rfl (ty := 27) (cs := pktC x (.slice (some ⟨g2, 0, none⟩) 21 c2)) rfl rfl rfl (by exact hX3) (n := 38) (by kernel_rfl) (pktC_size _ _) (pktC_size _ _) (pktC_one _ _ rfl) ?_; have hX4 := setRow_heap w3 X _ (pktC x (.slice (some ⟨g2, 0, none⟩) 21 c2)) _ _ hX3; have hk4 : Kep (fun b => b = X) w2 (w3.setRow X (pktC x (.slice (some ⟨g2, 0, none⟩) 21 c2))) := Kep.setRow (S := fun b => b = X) (g := X) (Kep.of_below hB3 (fun b hb _ => hb)) (.inl rfl) _; generalize w3.setRow X (pktC x (.slice (some ⟨g2, 0, none⟩) 21 c2)) = w4 at *; clear hX3 hB3) | (go_at_call 9; fail))
  have hgX : g2 ≠ X := fun e => by have := (Array.getElem?_eq_some_iff.1 hgc).1; omega
  have hg4 := hk4.heap hgc hgX
  have hBw4 := hk4.below hBw2 hBw2.size (fun k e => by have := hBw2.size; omega)
  clear hk4 hBw2 hgc
  refine (lives9_any w4 (hR.below hBw4 hRlt.out) (hC.below hBw4 hClt.out)).mono ?_
  rintro e w5 ⟨rfl, hB5⟩
  have hX5 := below_blk hB5 hX4
  have hg5 := below_blk hB5 hg4
  have hBw5 := hBw4.trans (hB5.mono hBw4.size)
  clear hX4 hg4 hB5 hBw4
  have hXg : X ≠ g2 := fun e => hgX e.symm
  obtain ⟨y, hy⟩ : ∃ y, y = bits .xor .u8 (nth C 20) 1 := ⟨_, rfl⟩
  have hyb := bits_u8_bd .xor (nth C 20) 1
  have hyn := xor1_ne hc20.1 hc20.2
  rw [← hy] at hyb hyn
  have hg6 : (w5.setCell ⟨g2, 20, none⟩ (.int .u8 y)).heap[g2]? = some (.cells (cur.setIfInBounds 20 (.int .u8 y)) 5 (0, 0)) := by rw [heap_setCell_eq, hg5, putOf_some]
  have hS6 := HS.out y _ hg6
  have hk6 := (Kep.refl (fun b => b = g2) w5).setCell (g := g2) (o := 20) (.inl rfl) (.int .u8 y)
  have hX6 := hk6.heap hX5 hXg
  have hB6 := hk6.below hBw5 hBw5.size (fun k e => by simp at hg2; omega)
  have HX6 := Lib.hid hX6
  have HB6 := Lib.hid hB6
  have HS6 := Lib.hid hS6
  have HYB := Lib.hid hyb
  have hcc : cellOf (some (.cells cur 5 (0, 0))) 20 = some (.int .u8 (nth C 20)) := by rw [cellOf_some, hcur]
  clear hg6 hS6 hk6 hX6 hB6
  have HY := Lib.hid hy
  have hy2 := hy.symm
  clear hy
  go_wp2_with (first | (refine bd_eq rfl (ty := 31) rfl (v := .agg (ints .u8 sec1)) (by kernel_rfl) ?_) | (refine ld_row rfl (ty := 27) rfl rfl HX6.out Tryd.underlying27 rfl (by kernel_rfl) (pktC_size _ _) ?_) | (go_at_call 10; fail))
  generalize w5.setCell ⟨g2, 20, none⟩ (.int .u8 y) = w6 at *
  have hBw6 := HB6.out
  have hfl := HF.out y hyb.1 hyb.2 hyn
  have hls : (C.set 20 y).length = 21 := by rw [List.length_set, hl21]
  have hcall := popen_any sec1 rfl sec1_bd 0 x hxk (C.set 20 y) (hsb.set 20 y hyb.1 hyb.2) (by omega) (some ⟨g2, 0, none⟩) c2 (by omega) w6 (hR.below hBw6 hRlt.out) (hC.below hBw6 hClt.out) HS6.out
  rw [hls] at hcall
  refine hcall.mono ?_
  clear hcall
  intro e w7 hP
  have hK2 : popenKind x (C.set 20 y).length = 0 := by rw [hls, ← hl21]; exact HK.out
  unfold POpenPost OpenPost at hP
  rw [if_pos hK2, hfl, if_neg (by decide)] at hP
  obtain ⟨rfl, hB7⟩ := hP
  have hBw7 := hBw6.trans (hB7.mono hBw6.size)
  clear hK2 hfl hls hB7 hBw6 hy2 hcc hX5 hg5 hBw5 HX6 HB6 HS6 hcur hsb hyn hyb hxk hc20 hl21 hc2
  go_wp2_with (first | (refine bd_eq rfl (ty := 31) rfl (v := .agg (ints .u8 sec0)) (by kernel_rfl) ?_) | (go_at_call 8; fail))
  refine (pseal_any sec0 rfl sec0_bd 0 0 1 1 ⟨by decide, by decide⟩ ⟨by decide, by decide⟩ ⟨by decide, by decide⟩ [] none 0 w7 (hR.below hBw7 hRlt.out) (hC.below hBw7 hClt.out) (SL.nil _ _ _)).mono ?_
  intro e w8 hP
  unfold PSealPost at hP
  have h02 : psealErr 0 1 1 ([] : List Int).length = 2 := pseal_0
  rw [if_neg (by rw [h02]; decide), h02] at hP
  obtain ⟨rfl, hB8⟩ := hP
  have hBw8 := hBw7.trans (hB8.mono hBw7.size)
  clear hB8 hBw7
  have hmk : ∀ wx, (Instr.makeSlice 25 (.int .i64 65537) (.int .i64 65537)).run Tryd.prog wx = .ok (.slice (some ⟨wx.heap.size, 0, none⟩) 65537 65537) (wx.alloc (.cells (ints .u8 (zerosL 65537)) 5)) := fun wx =>
    run_make_ints (P := Tryd.prog) (T := 25) (k := .u8) (by' := 1) Tryd.underlying25 (E := 5) (by kernel_rfl) 65537 (by omega) (by omega) wx
  go_wp2_with (first | (refine al_abs rfl (T := 27) rfl (cs := pktC pkt0 (.slice none 0 0)) (by kernel_rfl) ?_; intro w9 X2 hX9 hB9 hzX9 hzX9'; have hBw9 := hBw8.trans (hB9.mono hBw8.size)) | (refine st_row rfl (ty := 27) (cs := pktC pkt0 (.slice none 0 0)) rfl rfl rfl (by exact hX9) (n := 38) (by kernel_rfl) (pktC_size _ _) (pktC_size _ _) (pktC_one _ _ rfl) ?_; have hBwA := belowRow hBw9 (show w.heap.size ≤ X2 by have := hBw8.size; omega) (pktC pkt0 (.slice none 0 0)); generalize w9.setRow X2 (pktC pkt0 (.slice none 0 0)) = wA at *; clear hX9 hB9) | (refine bd_eq rfl (ty := 31) rfl (v := .agg (ints .u8 sec0)) (by kernel_rfl) ?_) | (go_at_call 8; fail))
  have hBB : Below w.heap.size w (wA.alloc (.cells (ints .u8 (zerosL 65537)) 5)) := hBwA.alloc hBwA.size _
  obtain ⟨Z, hZ⟩ : ∃ Z, Z = zerosL 65537 := ⟨_, rfl⟩
  have hZl : Z.length = 65537 := by rw [hZ]; exact zerosL_len _
  rw [← hZ] at hBB ⊢
  have hSZ : SL .u8 (wA.alloc (.cells (ints .u8 Z) 5)) (some ⟨wA.heap.size, 0, none⟩) Z := SL.row_all (blk1_0 _ _)
  have hcall := pseal_any sec0 rfl sec0_bd 0 1 1 1 ⟨by decide, by decide⟩ ⟨by decide, by decide⟩ ⟨by decide, by decide⟩ Z (some ⟨wA.heap.size, 0, none⟩) 65537 (wA.alloc (.cells (ints .u8 Z) 5)) (hR.below hBB hRlt.out) (hC.below hBB hClt.out) hSZ
  rw [hZl] at hcall
  refine hcall.mono ?_
  clear hcall hmk
  intro e wB hP
  unfold PSealPost at hP
  have h03 : psealErr 1 1 1 Z.length = 3 := pseal_long _ _ _ (by omega)
  rw [if_neg (by rw [h03]; decide), h03] at hP
  obtain ⟨rfl, hB10⟩ := hP
  have hBwB := hBB.trans (hB10.mono hBB.size)
  clear hB10 hBB hSZ hZ hBw9 hBwA hBw8 hzX9 hzX9' HF HS h02 h03 hZl
  go_wp2_with (first | (refine al_abs rfl (T := 27) rfl (cs := pktC pkt0 (.slice none 0 0)) (by kernel_rfl) ?_; intro wC X3 hXC hBC hzXC hzXC'; have hBwC := hBwB.trans (hBC.mono hBwB.size)) | (refine st_row rfl (ty := 27) (cs := pktC pkt0 (.slice none 0 0)) rfl rfl rfl (by exact hXC) (n := 38) (by kernel_rfl) (pktC_size _ _) (pktC_size _ _) (pktC_one _ _ rfl) ?_; have hBwD := belowRow hBwC (show w.heap.size ≤ X3 by have := hBwB.size; omega) (pktC pkt0 (.slice none 0 0)); generalize wC.setRow X3 (pktC pkt0 (.slice none 0 0)) = wD at *; clear hXC hBC) | (go_at_call 9; fail))
  refine (lives9_any wD (hR.below hBwD hRlt.out) (hC.below hBwD hClt.out)).mono ?_
  rintro e wE ⟨rfl, hBE⟩
  have hBwE := hBwD.trans (hBE.mono hBwD.size)
  clear hBE hBwD hBwC hBwB
  go_wp2_with (first | (refine bd_g (by rfl) (ty := 27) rfl (v := .agg (pktC pkt0 (.slice none 0 0))) (by kernel_rfl) ?_) | (go_at_call 11; fail))
  refine (check_any pkt0 (pkt0_ok 0) none 0 0 (by decide) wE).mono ?_
  rintro e wF ⟨rfl, hBF⟩
  have hBwF := hBwE.trans (hBF.mono hBwE.size)
  rw [pkt0_check]
  clear hBF hBwE
  go_wp2
  go_ret
  exact ⟨rfl, hBwF⟩
end Go.Proofs.YtjieiijbgbkikaaDoor
end
section
/- What the listed variables hold. -/
namespace Go.Proofs.YtjieiijbgbkikaaDoor
open Go Go.RowKit Go.ChangeShapes Go.WideShapes Go.ChangeAt
set_option maxRecDepth 100000
def zOf : Value → Int
  | .int _ z => z
  | _ => 0
theorem map_zOf (k : IntKind) (l : List Int) : (l.map (Value.int k)).map zOf = l := by
  rw [List.map_map]
  have : zOf ∘ Value.int k = id := by funext z; rfl
  rw [this, List.map_id]
section
variable {H : Type} {enc : TypeId × Value → H} {P : Program} {w : World} {base : Nat} {spare : Nat → Bool} {held : Bool} {fuel : Nat} {t : TypeId} {cs : List Value} {x : DataW H × List MemPlace}
theorem trod_ints {n : Nat} {e : TypeId} {k : IntKind} (ht : P.underlying t = some (.array n e)) (he : P.underlying e = some (.int k)) (hc : P.cellsOf e = 1) (hn : P.cellsOf t = n) (h : DataW.trod enc P w base spare held fuel t cs = some x) :
    ∃ l : List Int, l.length = n ∧ cs = l.map (Value.int k) ∧ x.1 = .agg (l.map fun z => .lit (.int k z)) := by
  obtain ⟨xs, m, _, hx, hl, hxs, hel⟩ := DataW.trod_array ht h
  rw [hc] at hel
  rw [hn] at hl
  have hone : ∀ i, i < n → ∃ z : Int, cs[i]? = some (.int k z) ∧ xs[i]? = some (.lit (.int k z), []) := fun i hi => by
    have h1 := hel i hi
    rw [Nat.mul_one, List.getElem?_eq_getElem (show i < xs.length by omega)] at h1
    obtain ⟨z, e1, e2, _⟩ := DataW.trod_int he h1
    refine ⟨z, ?_, by rw [List.getElem?_eq_getElem (show i < xs.length by omega), e2]⟩
    have h2 := congrArg (fun l : List Value => l[0]?) e1
    simpa [List.getElem?_take_of_lt] using h2
  refine ⟨cs.map zOf, by simpa using hl, ?_, ?_⟩
  · refine List.ext_getElem? fun i => ?_
    by_cases hi : i < n
    · obtain ⟨z, e1, _⟩ := hone i hi
      rw [List.getElem?_map, List.getElem?_map, e1]
      rfl
    · rw [List.getElem?_eq_none (by omega), List.getElem?_eq_none (by simp; omega)]
  · rw [hx]
    refine congrArg DataW.agg ?_
    refine List.ext_getElem? fun i => ?_
    by_cases hi : i < n
    · obtain ⟨z, e1, e2⟩ := hone i hi
      rw [List.getElem?_map, List.getElem?_map, List.getElem?_map, e1, e2]
      rfl
    · rw [List.getElem?_eq_none (by simp; omega), List.getElem?_eq_none (by simp; omega)]
theorem chunks (m : Nat) : ∀ (n : Nat) (l : List Value), l.length = n * m → l = ((List.range n).map fun i => (l.drop (i * m)).take m).flatten
  | 0, l, h => by simp at h; simp [h]
  | n + 1, l, h => by
    have h1 : (l.drop m).length = n * m := by rw [List.length_drop, h, Nat.succ_mul]; omega
    have ih := chunks m n (l.drop m) h1
    rw [List.range_succ_eq_map, List.map_cons, List.flatten_cons, List.map_map]
    have h2 : ((List.range n).map ((fun i => (l.drop (i * m)).take m) ∘ Nat.succ)) = (List.range n).map fun i => ((l.drop m).drop (i * m)).take m := by
      refine List.map_congr_left fun i _ => ?_
      show (l.drop ((i + 1) * m)).take m = _
      rw [List.drop_drop, Nat.succ_mul, Nat.add_comm]
    rw [h2, ← ih, Nat.zero_mul, List.drop_zero, List.take_append_drop]
theorem trod_rows {n m : Nat} {e e' : TypeId} {k : IntKind} (ht : P.underlying t = some (.array n e)) (he : P.underlying e = some (.array m e')) (he' : P.underlying e' = some (.int k)) (hc' : P.cellsOf e' = 1) (hc : P.cellsOf e = m) (hn : P.cellsOf t = n * m)
    (h : DataW.trod enc P w base spare held fuel t cs = some x) :
    ∃ ls : List (List Int), cs = ls.flatten.map (Value.int k) ∧ x.1 = .agg (ls.map fun l => .agg (l.map fun z => .lit (.int k z))) := by
  obtain ⟨xs, f, _, hx, hl, hxs, hel⟩ := DataW.trod_array ht h
  rw [hc] at hel
  rw [hn] at hl
  have hone : ∀ i, i < n → ∃ l : List Int, (cs.drop (i * m)).take m = l.map (Value.int k) ∧ (xs[i]?.map (·.1)) = some (.agg (l.map fun z => .lit (.int k z))) := fun i hi => by
    have h1 := hel i hi
    rw [List.getElem?_eq_getElem (show i < xs.length by omega)] at h1
    obtain ⟨l, _, e1, e2⟩ := trod_ints he he' hc' hc h1
    exact ⟨l, e1, by rw [List.getElem?_eq_getElem (show i < xs.length by omega), Option.map_some, e2]⟩
  refine ⟨(List.range n).map fun i => ((cs.drop (i * m)).take m).map zOf, ?_, ?_⟩
  · conv => lhs; rw [chunks m n cs hl]
    rw [List.map_flatten, List.map_map]
    congr 1
    refine List.map_congr_left fun i hi => ?_
    obtain ⟨l, e1, _⟩ := hone i (List.mem_range.1 hi)
    show (cs.drop (i * m)).take m = (((cs.drop (i * m)).take m).map zOf).map (Value.int k)
    rw [e1, map_zOf]
  · rw [hx]
    refine congrArg DataW.agg ?_
    refine List.ext_getElem? fun i => ?_
    by_cases hi : i < n
    · obtain ⟨l, e1, e2⟩ := hone i hi
      rw [List.getElem?_map, e2, List.getElem?_map, List.getElem?_map, List.getElem?_range hi]
      simp only [Option.map_some, e1, map_zOf]
    · rw [List.getElem?_eq_none (by simp; omega), List.getElem?_eq_none (by simp; omega)]
end
theorem lits_inj {H : Type} {k : IntKind} {a b : List Int} (h : (a.map fun z => (DataW.lit (.int k z) : DataW H)) = b.map fun z => .lit (.int k z)) : a = b :=
  (List.map_inj_right (fun x y e => by injection e with e; injection e)).1 h
theorem agg_ints_inj {H : Type} {k : IntKind} {a b : List Int} (h : (DataW.agg (a.map fun z => DataW.lit (.int k z)) : DataW H) = .agg (b.map fun z => .lit (.int k z))) : a = b := by
  injection h with h
  exact lits_inj h
theorem agg_rows_inj {H : Type} {k : IntKind} {a b : List (List Int)} (h : (DataW.agg (a.map fun l => DataW.agg (l.map fun z => DataW.lit (.int k z))) : DataW H) = .agg (b.map fun l => .agg (l.map fun z => .lit (.int k z)))) : a = b := by
  injection h with h
  exact (List.map_inj_right (fun x y e => agg_ints_inj e)).1 h
def colRows : List (List Int) := [[0, 4, 8, 12], [1, 5, 9, 13], [2, 6, 10, 14], [3, 7, 11, 15], [0, 5, 10, 15], [1, 6, 11, 12], [2, 7, 8, 13], [3, 4, 9, 14]]
theorem laid_round {H : Type} : (Rows.laid_drawbridge_api_Round : DataW H) = .agg (roundF.map fun z => .lit (.int .u32 z)) := by kernel_rfl
theorem laid_cols {H : Type} : (Rows.laid_drawbridge_chacha_columns : DataW H) = .agg (colRows.map fun l => .agg (l.map fun z => .lit (.int .i64 z))) := by kernel_rfl
theorem gRound : Tryd.prog.globalNamed "drawbridge/api.Round" = some 1 := by kernel_rfl
theorem gCols : Tryd.prog.globalNamed "drawbridge/chacha.columns" = some 0 := by kernel_rfl
theorem tRound : (Tryd.prog.globals[1]?).map (·.type) = some 164 := by kernel_rfl
theorem tCols : (Tryd.prog.globals[0]?).map (·.type) = some 153 := by kernel_rfl
theorem var_block {P : Program} {w : World} {n : String} {g : Nat} {cs : Array Value} (hg : P.globalNamed n = some g) (h : w.var? P n = some cs) : ∃ T fr, w.heap[g]? = some (.cells cs T fr) := by
  simp only [World.var?, hg, Option.bind_some] at h
  split at h <;> simp_all
def laid2 : List (String × DataW Unit) := [("drawbridge/api.Round", Rows.laid_drawbridge_api_Round), ("drawbridge/chacha.columns", Rows.laid_drawbridge_chacha_columns)]
/-- What the condition gives the walks. -/
theorem of_laid {W : World} (h : laidMetH Tryd.prog laid2 W) : Rnd W ∧ Cols W := by
  rw [MakeChecks.laidMetH_plain _ _ _ (by kernel_rfl)] at h
  obtain ⟨ps, ⟨g0, t0, cs0, f0, p0, q0, hg0, ht0, hv0, hd0, ⟨g1, t1, cs1, f1, p1, q1, hg1, ht1, hv1, hd1, _, _⟩, _⟩, _, _⟩ := h
  obtain rfl := Option.some.inj (gRound.symm.trans hg0)
  obtain rfl := Option.some.inj (gCols.symm.trans hg1)
  obtain rfl := Option.some.inj (tRound.symm.trans ht0)
  obtain rfl := Option.some.inj (tCols.symm.trans ht1)
  obtain ⟨T0, r0, hb0⟩ := var_block gRound hv0
  obtain ⟨T1, r1, hb1⟩ := var_block gCols hv1
  obtain ⟨l, _, e1, e2⟩ := trod_ints Tryd.underlying164 Tryd.underlying23 (by kernel_rfl) (by kernel_rfl) hd0
  obtain ⟨ls, e3, e4⟩ := trod_rows (n := 8) (m := 4) Tryd.underlying153 Tryd.underlying152 Tryd.underlying3 (by kernel_rfl) (by kernel_rfl) (by kernel_rfl) hd1
  have hl : l = roundF := agg_ints_inj (e2.symm.trans laid_round)
  have hls : ls = colRows := agg_rows_inj (e4.symm.trans laid_cols)
  subst hl hls
  refine ⟨⟨T0, r0, ?_⟩, ⟨T1, r1, ?_⟩⟩
  · rw [hb0]; congr 2; exact Array.ext' (by rw [e1]; rfl)
  · rw [hb1]; congr 2; exact Array.ext' (by rw [e3]; rfl)
end Go.Proofs.YtjieiijbgbkikaaDoor
end
section
/- Law 9: PacketNames, the row and the card. -/
namespace Go.Proofs.YtjieiijbgbkikaaDoor
open Go Go.RowKit Go.ChangeShapes Go.WideShapes Go.ChangeAt
set_option maxRecDepth 100000
theorem own : ownKnob Tryd.prog.godebug = none := by kernel_rfl
theorem door_met (os : Os) (args : Array Value) : laidMetH Tryd.prog laid2 ((World.doorLaid Tryd.prog 400 os).forCall (fun _ _ => 0) ⟨#[], args, []⟩).memory :=
  laidMetH_of_parts3 (fuel := 8) (laidMet_of_run' 8 (by kernel_rfl) (by kernel_rfl)) (by kernel_rfl) (by kernel_rfl)
theorem lifted_names (os : Os) (started : os.Started) (H : Type) (enc : TypeId × Value → H) :
    ReturnsInHanded {} Tryd.checked os 3 .any (fun w args => (Rows.packetNamesSpec.pre enc Tryd.prog Tryd.f3 [] false w args ∧ laidMetH Tryd.prog laid2 w) ∧ sizedMet enc Tryd.prog Tryd.f3 (OpenSpec.ofChange Rows.packetNamesSpec) false w args)
      (Rows.packetNamesSpec.post enc Tryd.prog Tryd.f3 false true false false) := by
  refine returnsInHanded_of_change_and (C := Tryd.checked) (X := fun w _ => laidMetH Tryd.prog laid2 w) (fun _ _ _ hh h => h.of_heap hh) own started (by kernel_rfl) Tryd.func3
    (ChangeSpec.witness_shaped (enc := enc) (C := Tryd.checked) (os := os) (X := fun w _ => laidMetH Tryd.prog laid2 w) false (World.doorLaid Tryd.prog 400 os) #[] 8 rfl (World.shaped_of_RefB (by kernel_rfl) (by kernel_rfl)) (by kernel_rfl) (by kernel_rfl) (by kernel_rfl) (door_met os _)) ?_
  intro W base args ds gs before hval0 hW _ _ hL _
  have hW' := hW
  obtain ⟨p, q, hA0, hV, rfl, hfz, hnd⟩ := hW
  have hA : DataW.TrodAll enc Tryd.prog W 0 (fun _ => true) true Tryd.f3.params.toList args.toList ds p := hA0
  rw [Tryd.params3] at hA
  obtain ⟨rfl, rfl⟩ := trodVars_none hV
  obtain ⟨hl, rfl, rfl⟩ : args.toList = [] ∧ ds = [] ∧ p = [] := by
    have hA1 := hA
    cases hq : args.toList <;> cases ds <;> simp [hq, DataW.TrodAll] at hA1
    exact ⟨rfl, rfl, hA1⟩
  obtain rfl : args = #[] := Array.ext' hl
  obtain ⟨hR, hC⟩ := of_laid hL
  refine (names9_any W hR hC).mono fun e W' ⟨he, hB⟩ => ?_
  subst he
  refine ⟨_, rfl, [], [], [], [], [], [], hW', ?_, ?_, ?_, hB.frame _, fun h => by cases h⟩
  · exact trodAll_mk1 (shut_bool Tryd.underlying4 _)
  · exact hA0
  · exact hV
theorem packetNames_holds : Rows.PacketNamesSaid :=
  OpenClaim.holds_of_wide 3 Tryd.f3 rfl rfl rfl rfl rfl rfl rfl ⟨rfl, rfl, rfl, rfl, rfl⟩ rfl rfl rfl rfl rfl (by kernel_rfl) Tryd.func3 (by kernel_rfl)
    (of_decide_eq_true (by kernel_rfl)) (by unfold Func.isWrapper; first | (rw [if_pos (by decide +kernel)]; kernel_rfl) | (rw [if_neg (by decide +kernel)]; exact ⟨rfl, rfl⟩))
    (fun os started H enc _ => lifted_names os started H enc)
theorem packetNames_card_holds : Rows.PacketNamesCardSaid :=
  Claim7.holds_tied_plain_at .later [] [.data, .data] true (true, "e49d9dadfad7a1d54a3a799f28c2b472b127b6977e7d1f71cd2397dfd9d93cdf") false
    packetNames_holds (fun _ h => by cases h) (by kernel_rfl) (fun _ h => by cases h) packetNames_row_tie rfl ⟨rfl, rfl⟩ (by kernel_rfl) rfl
    (fun f fn hf hfn => by
      obtain rfl : f = 3 := Option.some.inj ((show Tryd.prog.funcNamed "drawbridge/drawbridgelaw09.PacketNames" = some 3 by kernel_rfl).symm.trans hf) |>.symm
      obtain rfl : fn = Tryd.f3 := (Option.some.inj (Tryd.func3.symm.trans hfn)).symm
      exact ⟨by kernel_rfl, fun j t ht => by
        rw [Tryd.params3] at ht
        simp at ht⟩)
    (by kernel_rfl)
#print axioms packetNames_card_holds
end Go.Proofs.YtjieiijbgbkikaaDoor
end
