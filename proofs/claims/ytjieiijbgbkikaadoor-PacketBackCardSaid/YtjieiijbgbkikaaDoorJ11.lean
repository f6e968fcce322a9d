/- Lemmas of a proof over the given program, joined by wip/join.py: KAeadT KAead KOpen KNonce. -/
import Derived.Test.YtjieiijbgbkikaaDoorJ02
import Derived.Test.YtjieiijbgbkikaaDoorJ07
import Derived.Test.YtjieiijbgbkikaaDoorJ10
import Derived.Laws.Cover3
set_option linter.unusedSimpArgs false
set_option linter.unusedVariables false
section
/- Package aead: Tag. -/
namespace Go.Proofs.YtjieiijbgbkikaaDoor
open Go Go.RowKit
set_option maxRecDepth 100000
attribute [local go_sem] cell?_eq frozen?_eq heap_setCell_eq heap_setCell_ne

/-- x[i] of an array of slices, by value. -/
theorem run_index_slices {P : Program} {T e E : TypeId} {n : Nat} (hu : P.underlying T = some (.array n e)) (he : P.underlying e = some (.slice E)) (hs : (P.info? e).map (·.size) = some 1)
    (cs : Array Value) (i : Nat) (hi : i < n) {v : Value} (hv : cs[i]? = some v) (w : World) : (Instr.index T (.agg cs) (.int .i64 i)).run P w = .ok v w := by
  cases hq : P.info? e with
  | none => simp [hq] at hs
  | some q =>
    have hs' : q.size = 1 := by simpa [hq] using hs
    have h1 : (i : Int) < (n : Int) := by omega
    simp only [Instr.index, asIntOf, Sem.run_bind, Sem.run_pure, Result.andThen, run_underlying hu]
    simp [h1, sizeOf, typeInfo, hq, hs', part, isAgg, run_underlying he, hv]
/-- A Mac of this call's own (block M, beyond B; what lies below B is as in W). -/
def MacSt (B M : Nat) (W : World) (r s h l : List Int) (w : World) : Prop :=
  ∃ v n, w.heap[M]? = some (.cells (macC r h s v n) 143 (0, 0)) ∧ Own B w 5 .u8 v l ∧ Below B W w ∧ B ≤ M
theorem MacSt.below {B M : Nat} {W : World} {r s h l : List Int} {w : World} (m : MacSt B M W r s h l w) : Below B W w := by
  obtain ⟨v, n, h1, h2, h3, h4⟩ := m; exact h3
theorem MacSt.lt {B M : Nat} {W : World} {r s h l : List Int} {w : World} (m : MacSt B M W r s h l w) : B ≤ M ∧ M < w.heap.size := by
  obtain ⟨v, n, h1, h2, h3, h4⟩ := m; exact ⟨h4, (Array.getElem?_eq_some_iff.1 h1).1⟩
theorem MacSt.size {B M : Nat} {W : World} {r s h l : List Int} {w : World} (m : MacSt B M W r s h l w) : B ≤ w.heap.size := by
  have := m.lt; omega
theorem MacSt.kep {S : Nat → Prop} {B M : Nat} {W : World} {r s h l : List Int} {w w' : World} (m : MacSt B M W r s h l w) (hk : Kep S w w') (hS : ∀ k, S k → k ≠ M ∧ B ≤ k ∧ (k < w.heap.size → ∃ cs T fr, w.heap[k]? = some (.cells cs T fr) ∧ T ≠ 5)) : MacSt B M W r s h l w' := by
  have hz := m.size
  obtain ⟨v, n, h1, h2, h3, h4⟩ := m
  refine ⟨v, n, hk.heap h1 (fun e => (hS M e).1 rfl), h2.kep hk (fun g hg e => ?_), hk.below h3 hz (fun k e => (hS k e).2.1), h4⟩
  obtain ⟨cs, T, fr, h5, h6⟩ := (hS g e).2.2 (h2.lt g hg).2
  exact h2.ne h5 h6 hg
theorem MacSt.alloc {B M : Nat} {W : World} {r s h l : List Int} {w : World} (m : MacSt B M W r s h l w) (o : Obj) : MacSt B M W r s h l (w.alloc o) :=
  m.kep ((Kep.refl (fun _ => False) w).alloc o) (fun k e => e.elim)
theorem MacSt.drew {B M : Nat} {W : World} {r s h l : List Int} {w : World} (m : MacSt B M W r s h l w) : MacSt B M W r s h l w.drew :=
  m.kep ((Kep.refl (fun _ => False) w).drew) (fun k e => e.elim)
theorem MacSt.setCell {B M : Nat} {W : World} {r s h l : List Int} {w : World} (m : MacSt B M W r s h l w) {S o : Nat} (hM : S ≠ M) (hB : B ≤ S) {cs : Array Value} {T : TypeId} {fr : Nat × Nat} (hS : w.heap[S]? = some (.cells cs T fr)) (hT : T ≠ 5) (v : Value) :
    MacSt B M W r s h l (w.setCell ⟨S, o, none⟩ v) :=
  m.kep ((Kep.refl (fun k => k = S) w).setCell (.inl rfl) v) (fun k e => by subst e; exact ⟨hM, hB, fun _ => ⟨cs, T, fr, hS, hT⟩⟩)
theorem writeL_lt (l b : List Int) : (writeL l b).length < 16 := by unfold writeL; rw [List.length_drop]; omega
theorem writeL_len (l b : List Int) : (writeL l b).length = (l.length + b.length) % 16 := by unfold writeL; rw [List.length_drop, List.length_append]; omega
theorem writeL_bd {l b : List Int} (hl : Bd 256 l) (hb : Bd 256 b) : Bd 256 (writeL l b) := by unfold writeL; exact (hl.append (by decide) hb).drop (by decide) _
theorem writeH_len (h r l b : List Int) (hh : h.length = 5) : (writeH h r l b).length = 5 := by unfold writeH; exact blocksTo_len hh ..
theorem write_step {r s h l b : List Int} (hr : r.length = 5) (hh : h.length = 5) (hlB : Bd 256 l) (hbB : Bd 256 b) (hlen : l.length + b.length ≤ 1099511627776) {B M : Nat} {W w : World} (m : MacSt B M W r s h l w) (p : Option Addr) (cap : Nat)
    (hb : SL .u8 w p b) (hne : ∀ a, p = some a → b ≠ [] → a.block < B ∨ (a.block ≠ M ∧ ∃ cs T fr, w.heap[a.block]? = some (.cells cs T fr) ∧ T ≠ 5)) :
    Calls Tryd.prog 95 #[.pointer (some ⟨M, 0, none⟩), .slice p b.length cap] w fun e w' => e = .returned (.int .i64 0) ∧ MacSt B M W r s (writeH h r l b) (writeL l b) w' := by
  have hz := m.size
  obtain ⟨v, n, h1, h2, h3, h4⟩ := m
  refine (write_any r h s l b hr hh hlB hbB hlen B M v n p cap w h1 h2 hz hb (fun a ha hn => ?_)).mono ?_
  · rcases hne a ha hn with h | ⟨h, cs, T, fr, h5, h6⟩
    · exact ⟨by omega, fun e => by have := (h2.lt _ e).1; omega⟩
    · exact ⟨h, h2.ne h5 h6⟩
  · rintro e w' ⟨he, v', n', h5, h6, h7⟩
    refine ⟨he, v', n', h5, h6.mono hz, h7.below h3 hz (fun k hk => ?_), h4⟩
    rcases hk with rfl | hk
    · exact h4
    · exact (h2.lt _ hk).1
theorem mtag_step {r s h l : List Int} (hr : r.length = 5) (hh : h.length = 5) (hs : s.length = 16) (hsB : Bd 256 s) (hlB : Bd 256 l) (hl : l.length < 16) {B M : Nat} {W w : World} (m : MacSt B M W r s h l w) :
    Calls Tryd.prog 96 #[.pointer (some ⟨M, 0, none⟩)] w fun e w' => e = .returned (.agg (ints .u8 (tagS r h s l))) ∧ Below w.heap.size w w' := by
  obtain ⟨v, n, h1, h2, h3, h4⟩ := m
  exact mtag_any r h s l hr hh hs hsB hlB hl B M v n w h1 h2

theorem outTo_bd (first s : List Int) (k : Nat) : Bd 256 (outTo first s k) := by
  induction k with
  | zero => unfold outTo; exact Bd.zerosL (by decide) _
  | succ k ih =>
    unfold outTo
    have h : 0 ≤ add32 (nth s k) (nth first k) ∧ add32 (nth s k) (nth first k) < 4294967296 := by unfold add32; omega
    exact (((ih.set _ _ (by omega) (by omega)).set _ _ (by omega) (by omega)).set _ _ (by omega) (by omega)).set _ _ (by omega) (by omega)
theorem blockS_bd (key : List Int) (c : Int) (nonce : List Int) : Bd 256 (blockS key c nonce) := by unfold blockS; exact outTo_bd _ _ _
theorem onceS_bd (key nonce : List Int) : Bd 256 (onceS key nonce) := by unfold onceS; exact (blockS_bd key 0 nonce).take (by decide) _
/-- The bytes of two lengths. -/
def sizeT (x y : Int) : Nat → List Int
  | 0 => zerosL 16
  | k + 1 => ((sizeT x y k).set k (x / 2 ^ (8 * k) % 256)).set (8 + k) (y / 2 ^ (8 * k) % 256)
theorem sizeT_len (x y : Int) (k : Nat) : (sizeT x y k).length = 16 := by induction k <;> simp [sizeT, zerosL_len, *]
theorem sizeT_zero (x y : Int) : sizeT x y 0 = zerosL 16 := rfl
theorem sizeT_succ (x y : Int) (k : Nat) : sizeT x y (k + 1) = ((sizeT x y k).set k (x / 2 ^ (8 * k) % 256)).set (8 + k) (y / 2 ^ (8 * k) % 256) := rfl
theorem sizeT_bd (x y : Int) (k : Nat) : Bd 256 (sizeT x y k) := by
  induction k with
  | zero => exact Bd.zerosL (by decide) _
  | succ k ih => rw [sizeT_succ]; exact (ih.set _ _ (by omega) (by omega)).set _ _ (by omega) (by omega)
attribute [irreducible] sizeT
/-- What is written of one part: the part, noughts up to sixteen. -/
def padN (n : Nat) : Nat := (16 - n % 16) % 16
theorem padN_lt (n : Nat) : padN n < 16 := by unfold padN; omega
theorem bits_pad (n : Nat) : bits .and .i64 (-(n : Int)) 15 = (padN n : Int) := by
  unfold bits
  have h1 : (BitVec.ofInt 64 (-(n:Int)) &&& BitVec.ofInt 64 15).toNat = (BitVec.ofInt 64 (-(n:Int))).toNat % 16 := by
    rw [BitVec.toNat_and]; exact Nat.and_two_pow_sub_one_eq_mod _ 4
  have h2 : (BitVec.ofInt 64 (-(n:Int))).toNat = ((-(n:Int)) % 18446744073709551616).toNat := BitVec.toNat_ofInt ..
  show IntKind.i64.wrap ((BitVec.ofInt 64 (-(n:Int)) &&& BitVec.ofInt 64 15).toNat : Int) = _
  rw [h1, h2]
  have h3 : ((-(n:Int)) % 18446744073709551616).toNat % 16 = padN n := by unfold padN; omega
  rw [h3]
  exact IntWalk.i64_in _ (by unfold padN; omega)
theorem take_zerosL {n m : Nat} (h : n ≤ m) : (zerosL m).take n = zerosL n := by simp [zerosL, Nat.min_eq_left h]
attribute [irreducible] padN
def partT (r : List Int) (hl : List Int × List Int) (b : List Int) : List Int × List Int :=
  (writeH (writeH hl.1 r hl.2 b) r (writeL hl.2 b) (zerosL (padN b.length)), writeL (writeL hl.2 b) (zerosL (padN b.length)))
def partsT (r along cipher : List Int) : Nat → List Int × List Int
  | 0 => (zerosL 5, [])
  | 1 => partT r (zerosL 5, []) along
  | _ => partT r (partT r (zerosL 5, []) along) cipher
theorem partT_len (r : List Int) (x : List Int × List Int) (b : List Int) (h : x.1.length = 5) : (partT r x b).1.length = 5 := by unfold partT; exact writeH_len _ _ _ _ (writeH_len _ _ _ _ h)
theorem partT_bd (r : List Int) (x : List Int × List Int) (b : List Int) (h : Bd 256 x.2) (hb : Bd 256 b) : Bd 256 (partT r x b).2 := by unfold partT; exact writeL_bd (writeL_bd h hb) (Bd.zerosL (by decide) _)
theorem partT_lt (r : List Int) (x : List Int × List Int) (b : List Int) : (partT r x b).2.length < 16 := by unfold partT; exact writeL_lt _ _
theorem partsT_len (r along cipher : List Int) (k : Nat) : (partsT r along cipher k).1.length = 5 := by
  unfold partsT; split
  · exact zerosL_len 5
  · exact partT_len _ _ _ (zerosL_len 5)
  · exact partT_len _ _ _ (partT_len _ _ _ (zerosL_len 5))
theorem partsT_bd {r along cipher : List Int} (ha : Bd 256 along) (hc : Bd 256 cipher) (k : Nat) : Bd 256 (partsT r along cipher k).2 := by
  unfold partsT; split
  · exact Bd.nil (by decide)
  · exact partT_bd _ _ _ (Bd.nil (by decide)) ha
  · exact partT_bd _ _ _ (partT_bd _ _ _ (Bd.nil (by decide)) ha) hc
theorem partsT_lt (r along cipher : List Int) (k : Nat) : (partsT r along cipher k).2.length < 16 := by
  unfold partsT; split
  · decide
  · exact partT_lt _ _ _
  · exact partT_lt _ _ _
def aeadT (key nonce cipher along : List Int) : List Int :=
  let k := onceS key nonce
  let r := macR k
  let a := partT r (partT r (zerosL 5, []) along) cipher
  let z := sizeT along.length cipher.length 8
  tagS r (writeH a.1 r a.2 z) (macS k) (writeL a.2 z)
theorem aeadT_len (key nonce cipher along : List Int) : (aeadT key nonce cipher along).length = 16 := tagS_len ..

set_option maxHeartbeats 8000000 in
theorem atag_any (key nonce cipher along : List Int) (hk : key.length = 32) (hn : nonce.length = 12) (hkB : Bd 256 key) (hnB : Bd 256 nonce) (hcB : Bd 256 cipher) (haB : Bd 256 along) (hcl : cipher.length ≤ 1048576) (hal : along.length ≤ 1048576)
    (cp ap : Option Addr) (cc ac : Nat) (w : World) (hC : Cols w) (hcS : SL .u8 w cp cipher) (haS : SL .u8 w ap along) :
    Calls Tryd.prog 46 #[.agg (ints .u8 key), .agg (ints .u8 nonce), .slice cp cipher.length cc, .slice ap along.length ac] w fun e w' => e = .returned (.agg (ints .u8 (aeadT key nonce cipher along))) ∧ Below w.heap.size w w' := by
  have hwC := hC.lt
  go_enter Tryd.func46, Tryd.ntmps46
  go_wp2_with (first | (refine al_row rfl (T := 24) rfl (cs := ints .u8 (zerosL 16)) (by kernel_rfl) ?_) | (refine ld_ints rfl (ty := 31) rfl rfl (by exact blk4_0 _ _ _ _ _) Tryd.underlying31 (by kernel_rfl) hk ?_) | (refine ld_ints rfl (ty := 62) rfl rfl (by exact blk4_1 _ _ _ _ _) Tryd.underlying62 (by kernel_rfl) hn ?_))
  have hAll : Below w.heap.size w ((((w.alloc (.cells (ints .u8 key) 31)).alloc (.cells (ints .u8 nonce) 62)).alloc (.cells (ints .u8 (zerosL 16)) 24)).alloc (.cells (ints .u8 (zerosL 16)) 24)) := ((((Below.refl _ _).alloc (Nat.le_refl _) _).alloc (by simp) _).alloc (by simp; omega) _).alloc (by simp; omega) _
  refine (once_any key nonce hk hn hkB hnB _ (hC.below hAll hwC)).mono ?_
  rintro e w1 ⟨rfl, hB1⟩
  have hO1 := below_block hB1 (blk4_2 _ _ _ _ _) (by simp)
  have hZ1 := below_block hB1 (blk4_3 _ _ _ _ _) (by simp)
  have hBw1 : Below w.heap.size w w1 := hAll.trans (hB1.mono (by simp; omega))
  have hz1 : w.heap.size + 4 ≤ w1.heap.size := by have := hB1.size; simp at this; omega
  clear hB1 hAll
  have hol := onceS_len key nonce
  have hoB := onceS_bd key nonce
  obtain ⟨K, hK⟩ : ∃ K, K = onceS key nonce := ⟨_, rfl⟩
  rw [← hK] at hol hoB ⊢
  have HK := Lib.hid hK; clear hK
  have hrl := macR_len K
  have hsl := macS_len K hol
  have hsB : Bd 256 (macS K) := hoB.drop (by decide) _
  obtain ⟨R, hR⟩ : ∃ R, R = macR K := ⟨_, rfl⟩
  obtain ⟨S, hS⟩ : ∃ S, S = macS K := ⟨_, rfl⟩
  rw [← hR] at hrl
  rw [← hS] at hsl hsB
  have HR := Lib.hid hR; have HS := Lib.hid hS
  go_wp2_with (go_at_call 93; refine (pnew_any _ hol hoB _).mono ?_; rintro e w2 ⟨M, rfl, hMge, hM2, hB2⟩)
  rw [← hR, ← hS] at hM2
  have m0 : MacSt w1.heap.size M w1 R S (zerosL 5) [] w2 := ⟨_, _, hM2, Own.nil .., hB2, hMge⟩
  clear hR hS hM2 hB2
  have hix0 : ∀ wx, (Instr.index 134 (.agg #[.slice ap along.length ac, .slice cp cipher.length cc]) (.int .i64 0)).run Tryd.prog wx = .ok (.slice ap along.length ac) wx := fun wx => run_index_slices Tryd.underlying134 Tryd.underlying25 (by kernel_rfl) _ 0 (by decide) rfl wx
  have hix1 : ∀ wx, (Instr.index 134 (.agg #[.slice ap along.length ac, .slice cp cipher.length cc]) (.int .i64 1)).run Tryd.prog wx = .ok (.slice cp cipher.length cc) wx := fun wx => run_index_slices Tryd.underlying134 Tryd.underlying25 (by kernel_rfl) _ 1 (by decide) rfl wx
  go_loopw [12, 22] (fun _ i wr => ∃ k : Nat, k ≤ 2 ∧ i = .int .i64 k ∧ MacSt w1.heap.size M w1 R S (partsT R along cipher k).1 (partsT R along cipher k).2 wr) (fun _ i _ => 2 - (intOf i).toNat)
  case atStart => exact ⟨0, by omega, rfl, m0⟩
  case round =>
    clear m0
    obtain ⟨k, hk2, rfl, m⟩ := hrel
    by_cases hlt : k < 2
    · obtain rfl | rfl : k = 0 ∨ k = 1 := by omega
      · have hpd := bits_pad along.length
        obtain ⟨N, hN⟩ : ∃ N, N = padN along.length := ⟨_, rfl⟩
        have hN16 : N < 16 := by rw [hN]; exact padN_lt _
        rw [← hN] at hpd
        have HN := Lib.hid hN; clear hN
        have n1 : (N : Int) ≤ 16 := by omega
        have n2 : N ≤ 16 := by omega
        have hNl : (zerosL N).length = N := zerosL_len N
        have hw1 := write_step (b := along) hrl (partsT_len ..) (partsT_bd haB hcB _) haB (by have := partsT_lt R along cipher 0; omega) m ap ac (haS.below (hBw1.trans (m.below.mono (by omega)))) (fun a ha hn => .inl (by have := haS.lt hn a ha; omega))
        have hw2 : ∀ wA, MacSt w1.heap.size M w1 R S (writeH (partsT R along cipher 0).1 R (partsT R along cipher 0).2 along) (writeL (partsT R along cipher 0).2 along) wA → _ := fun wA m => write_step (b := zerosL N) hrl (writeH_len _ _ _ _ (partsT_len ..)) (writeL_bd (partsT_bd haB hcB _) haB) (Bd.zerosL (by decide) _) (by have := writeL_lt (partsT R along cipher 0).2 along; omega) m (some ⟨w.heap.size + 1 + 1 + 1, 0, none⟩) 16 (by have h1 := SL.row (off := 0) (n := N) (below_block m.below hZ1 (by omega)) (by rw [zerosL_len]; omega); rwa [List.drop_zero, take_zerosL (by omega)] at h1) (fun a ha hn => .inl (by cases ha; show w.heap.size + 1 + 1 + 1 < _; omega))
        simp only [hNl] at hw2
        clear m
        go_wp2_with (first | (go_at_call 95; refine hw1.mono ?_; clear hw1; rintro e wA ⟨rfl, mA⟩) | (go_at_call 95; refine (hw2 _ mA).mono ?_; clear hw2; rintro e wB ⟨rfl, m⟩))
        go_roundw
        case rel => exact ⟨1, by omega, by go_num, by rw [HN.out] at m; exact m⟩
        case measure => simp [intOf]
      · have hpd := bits_pad cipher.length
        obtain ⟨N, hN⟩ : ∃ N, N = padN cipher.length := ⟨_, rfl⟩
        have hN16 : N < 16 := by rw [hN]; exact padN_lt _
        rw [← hN] at hpd
        have HN := Lib.hid hN; clear hN
        have n1 : (N : Int) ≤ 16 := by omega
        have n2 : N ≤ 16 := by omega
        have hNl : (zerosL N).length = N := zerosL_len N
        have hw1 := write_step (b := cipher) hrl (partsT_len ..) (partsT_bd haB hcB _) hcB (by have := partsT_lt R along cipher 1; omega) m cp cc (hcS.below (hBw1.trans (m.below.mono (by omega)))) (fun a ha hn => .inl (by have := hcS.lt hn a ha; omega))
        have hw2 : ∀ wA, MacSt w1.heap.size M w1 R S (writeH (partsT R along cipher 1).1 R (partsT R along cipher 1).2 cipher) (writeL (partsT R along cipher 1).2 cipher) wA → _ := fun wA m => write_step (b := zerosL N) hrl (writeH_len _ _ _ _ (partsT_len ..)) (writeL_bd (partsT_bd haB hcB _) hcB) (Bd.zerosL (by decide) _) (by have := writeL_lt (partsT R along cipher 1).2 cipher; omega) m (some ⟨w.heap.size + 1 + 1 + 1, 0, none⟩) 16 (by have h1 := SL.row (off := 0) (n := N) (below_block m.below hZ1 (by omega)) (by rw [zerosL_len]; omega); rwa [List.drop_zero, take_zerosL (by omega)] at h1) (fun a ha hn => .inl (by cases ha; show w.heap.size + 1 + 1 + 1 < _; omega))
        simp only [hNl] at hw2
        clear m
        go_wp2_with (first | (go_at_call 95; refine hw1.mono ?_; clear hw1; rintro e wA ⟨rfl, mA⟩) | (go_at_call 95; refine (hw2 _ mA).mono ?_; clear hw2; rintro e wB ⟨rfl, m⟩))
        go_roundw
        case rel => exact ⟨2, by omega, by go_num, by rw [HN.out] at m; exact m⟩
        case measure => simp [intOf]
    · have hk' := Lib.hid (show k = 2 by omega)
      go_wp2_with (refine al_row rfl (T := 24) rfl (cs := ints .u8 (zerosL 16)) (by kernel_rfl) ?_)
      obtain ⟨Z, hZ⟩ : ∃ Z, Z = wr.heap.size := ⟨_, rfl⟩
      have hZM : Z ≠ M := by have := m.lt; omega
      have hZB : w1.heap.size ≤ Z := by have := m.size; omega
      have ma := m.alloc (.cells (ints .u8 (zerosL 16)) 24)
      have hZa : (wr.alloc (.cells (ints .u8 (zerosL 16)) 24)).heap[Z]? = some (.cells (ints .u8 (zerosL 16)) 24 (0, 0)) := heap_alloc_at _ _ _ hZ
      rw [← hZ]
      have HZ := Lib.hid hZ
      clear m hZ
      generalize wr.alloc (.cells (ints .u8 (zerosL 16)) 24) = Wa at *
      obtain ⟨A, hA⟩ : ∃ A, A = partsT R along cipher k := ⟨_, rfl⟩
      have hA1 : A.1.length = 5 := by rw [hA]; exact partsT_len ..
      have hA2 : A.2.length < 16 := by rw [hA]; exact partsT_lt ..
      have hAB : Bd 256 A.2 := by rw [hA]; exact partsT_bd haB hcB _
      rw [← hA] at ma
      have HA := Lib.hid hA
      clear hA
      go_loopw [14, 36] (fun _ i wr => ∃ j : Nat, j ≤ 8 ∧ i = .int .i64 j ∧ wr.heap[Z]? = some (.cells (ints .u8 (sizeT along.length cipher.length j)) 24 (0, 0)) ∧ MacSt w1.heap.size M w1 R S A.1 A.2 wr) (fun _ i _ => 8 - (intOf i).toNat)
      case atStart => exact ⟨0, by omega, rfl, by rw [sizeT_zero]; exact hZa, ma⟩
      case round =>
        clear hZa ma
        obtain ⟨j, hj8, rfl, hZ, m⟩ := hrel
        have hol := sizeT_len along.length cipher.length j
        by_cases hlj : j < 8
        · have j1 : (j : Int) < 8 := by omega
          have j2 : (8 : Int) + (j : Int) < 16 := by omega
          have j3 : (0 : Int) ≤ 8 + (j : Int) := by omega
          have j4 : (8 + (j : Int)).toNat = 8 + j := by omega
          have j5 : (0 : Int) ≤ 8 * (j : Int) := by omega
          have j6 : (8 * (j : Int)).toNat = 8 * j := by omega
          have j7 : IntKind.i64.wrap (8 + (j : Int)) = 8 + (j : Int) := IntWalk.i64_in _ (by omega)
          have j8 : IntKind.i64.wrap (8 * (j : Int)) = 8 * (j : Int) := IntWalk.i64_in _ (by omega)
          have j9 : j < 16 := by omega
          have j10 : 8 + j < 16 := by omega
          have j11 : (j : Int) < 16 := by omega
          have ja : IntKind.u64.wrap (along.length : Int) = (along.length : Int) := IntWalk.u64_in _ (by omega)
          have jc : IntKind.u64.wrap (cipher.length : Int) = (cipher.length : Int) := IntWalk.u64_in _ (by omega)
          go_wp2
          refine wp_region_E [20] (S1 (fun _ => True) (fun _ => True)) (by kernel_rfl) ?_
          have hI0 : ∀ wx, S1 (fun _ => True) (fun _ => True) [false] wx := fun wx => ⟨trivial, fun _ => trivial⟩
          try simp only [Act.put, List.setIfInBounds_toArray, List.set_cons_zero, List.set_cons_succ]
          refine takeA (i := 0) (v := ?_) rfl (by kernel_rfl) (fun _ _ _ h => h) rfl (by exact hI0 _) (fun wx hx => ?_) ?_
          rotate_left
          · go_simp; try with_reducible rfl
          try simp only [Act.put, List.setIfInBounds_toArray, List.set_cons_zero, List.set_cons_succ]
          refine takeA (i := 1) (v := ?_) rfl (by kernel_rfl) (fun _ _ _ h => h) rfl (by exact hI0 _) (fun wx hx => ?_) ?_
          rotate_left
          · go_simp; try with_reducible rfl
          try simp only [Act.put, List.setIfInBounds_toArray, List.set_cons_zero, List.set_cons_succ]
          refine takeA (i := 2) (v := ?_) rfl (by kernel_rfl) (fun _ _ _ h => h) rfl (by exact hI0 _) (fun wx hx => ?_) ?_
          rotate_left
          · go_simp; try with_reducible rfl
          try simp only [Act.put, List.setIfInBounds_toArray, List.set_cons_zero, List.set_cons_succ]
          refine takeA (i := 3) (v := ?_) rfl (by kernel_rfl) (fun _ _ _ h => h) rfl (by exact hI0 _) (fun wx hx => ?_) ?_
          rotate_left
          · go_simp; try with_reducible rfl
          try simp only [Act.put, List.setIfInBounds_toArray, List.set_cons_zero, List.set_cons_succ]
          refine takeA (i := 4) (v := ?_) rfl (by kernel_rfl) (fun _ _ _ h => h) rfl (by exact hI0 _) (fun wx hx => ?_) ?_
          rotate_left
          · go_simp; try with_reducible rfl
          try simp only [Act.put, List.setIfInBounds_toArray, List.set_cons_zero, List.set_cons_succ]
          refine takeA (i := 5) (v := ?_) rfl (by kernel_rfl) (fun _ _ _ h => h) rfl (by exact hI0 _) (fun wx hx => ?_) ?_
          rotate_left
          · go_simp; try with_reducible rfl
          try simp only [Act.put, List.setIfInBounds_toArray, List.set_cons_zero, List.set_cons_succ]
          refine takeA (i := 6) (v := ?_) rfl (by kernel_rfl) (fun _ _ _ h => h) rfl (by exact hI0 _) (fun wx hx => ?_) ?_
          rotate_left
          · go_simp; try with_reducible rfl
          try simp only [Act.put, List.setIfInBounds_toArray, List.set_cons_zero, List.set_cons_succ]
          refine takeA (i := 7) (v := ?_) rfl (by kernel_rfl) (fun _ _ _ h => h) rfl (by exact hI0 _) (fun wx hx => ?_) ?_
          rotate_left
          · go_simp; try with_reducible rfl
          try simp only [Act.put, List.setIfInBounds_toArray, List.set_cons_zero, List.set_cons_succ]
          refine takeA (i := 8) (v := ?_) rfl (by kernel_rfl) (fun _ _ _ h => h) rfl (by exact hI0 _) (fun wx hx => ?_) ?_
          rotate_left
          · go_simp; try with_reducible rfl
          try simp only [Act.put, List.setIfInBounds_toArray, List.set_cons_zero, List.set_cons_succ]
          refine takeA (i := 9) (v := ?_) rfl (by kernel_rfl) (fun _ _ _ h => h) rfl (by exact hI0 _) (fun wx hx => ?_) ?_
          rotate_left
          · go_simp; try with_reducible rfl
          try simp only [Act.put, List.setIfInBounds_toArray, List.set_cons_zero, List.set_cons_succ]
          refine takeA (i := 10) (v := ?_) rfl (by kernel_rfl) (fun _ _ _ h => h) rfl (by exact hI0 _) (fun wx hx => ?_) ?_
          rotate_left
          · go_simp; try with_reducible rfl
          try simp only [Act.put, List.setIfInBounds_toArray, List.set_cons_zero, List.set_cons_succ]
          refine takeA (i := 11) (v := ?_) rfl (by kernel_rfl) (fun _ _ _ h => h) rfl (by exact hI0 _) (fun wx hx => ?_) ?_
          rotate_left
          · go_simp; try with_reducible rfl
          try simp only [Act.put, List.setIfInBounds_toArray, List.set_cons_zero, List.set_cons_succ]
          refine takeA (i := 12) (v := ?_) rfl (by kernel_rfl) (fun _ _ _ h => h) rfl (by exact hI0 _) (fun wx hx => ?_) ?_
          rotate_left
          · go_simp; try with_reducible rfl
          try simp only [Act.put, List.setIfInBounds_toArray, List.set_cons_zero, List.set_cons_succ]
          refine takeA (i := 13) (v := ?_) rfl (by kernel_rfl) (fun _ _ _ h => h) rfl (by exact hI0 _) (fun wx hx => ?_) ?_
          rotate_left
          · go_simp; try with_reducible rfl
          try simp only [Act.put, List.setIfInBounds_toArray, List.set_cons_zero, List.set_cons_succ]
          refine takeA (i := 14) (v := ?_) rfl (by kernel_rfl) (fun _ _ _ h => h) rfl (by exact hI0 _) (fun wx hx => ?_) ?_
          rotate_left
          · go_simp; try with_reducible rfl
          try simp only [Act.put, List.setIfInBounds_toArray, List.set_cons_zero, List.set_cons_succ]
          refine takeA (i := 15) (v := ?_) rfl (by kernel_rfl) (fun _ _ _ h => h) rfl (by exact hI0 _) (fun wx hx => ?_) ?_
          rotate_left
          · go_simp; try with_reducible rfl
          try simp only [Act.put, List.setIfInBounds_toArray, List.set_cons_zero, List.set_cons_succ]
          refine takeA (i := 16) (v := ?_) rfl (by kernel_rfl) (fun _ _ _ h => h) rfl (by exact hI0 _) (fun wx hx => ?_) ?_
          rotate_left
          · go_simp; try with_reducible rfl
          try simp only [Act.put, List.setIfInBounds_toArray, List.set_cons_zero, List.set_cons_succ]
          refine takeA (i := 17) (v := ?_) rfl (by kernel_rfl) (fun _ _ _ h => h) rfl (by exact hI0 _) (fun wx hx => ?_) ?_
          rotate_left
          · go_simp; try with_reducible rfl
          try simp only [Act.put, List.setIfInBounds_toArray, List.set_cons_zero, List.set_cons_succ]
          refine runOne (i := 18) (by kernel_rfl) rfl rfl ?_
          go_simp
          have hI1 : ∀ wx, S1 (fun _ => True) (fun _ => True) [false] wx := fun wx => ⟨trivial, fun _ => trivial⟩
          refine ⟨by exact hI1 _, ?_⟩
          try simp only [Act.put, List.setIfInBounds_toArray, List.set_cons_zero, List.set_cons_succ]
          refine takeA (i := 19) (v := ?_) rfl (by kernel_rfl) (fun _ _ _ h => h) rfl (by exact hI1 _) (fun wx hx => ?_) ?_
          rotate_left
          · go_simp; try with_reducible rfl
          try simp only [Act.put, List.setIfInBounds_toArray, List.set_cons_zero, List.set_cons_succ]
          refine runOne (i := 20) (by kernel_rfl) rfl rfl ?_
          go_simp
          have hI2 : ∀ wx, S1 (fun _ => True) (fun _ => True) [true] wx := fun wx => ⟨trivial, fun _ => trivial⟩
          refine ⟨by exact hI2 _, ?_⟩
          try simp only [Act.put, List.setIfInBounds_toArray, List.set_cons_zero, List.set_cons_succ]
          refine wpAnyE_done (by kernel_rfl) ?_ _
          go_wp2
          go_roundw
          case rel => exact ⟨j + 1, by omega, by go_num, by rw [sizeT_succ]; exact (by simp (disch := (first | omega | (simp only [World.size_alloc, World.size_drew, size_setRow, World.heap_drewN]; omega) | simp only [World.size_alloc, World.size_drew, size_setRow, World.heap_drewN])) only [World.heap_drewN, heap_drew, heap_alloc_past, heap_alloc_at, heap_setRow_ne, heap_setCell_eq, heap_setCell_ne', putOf_some, set_ints, hZ]), (((m.setCell hZM hZB hZ (by decide) _).setCell hZM hZB (by exact (heap_setCell_eq _ _ _ _).trans (by rw [hZ]; rfl)) (by decide) _)).drew⟩
          case measure => simp [intOf]; omega
        · have hj' := Lib.hid (show j = 8 by omega)
          have hw3 := write_step (b := sizeT along.length cipher.length j) hrl hA1 hAB (sizeT_bd _ _ _) (by omega) m (some ⟨Z, 0, none⟩) 16 (SL.row_all hZ) (fun a ha hn => .inr ⟨by cases ha; exact hZM, _, _, _, by cases ha; exact hZ, by decide⟩)
          rw [hol] at hw3
          have hw4 : ∀ wA, MacSt w1.heap.size M w1 R S (writeH A.1 R A.2 (sizeT along.length cipher.length j)) (writeL A.2 (sizeT along.length cipher.length j)) wA → _ := fun wA m => mtag_step hrl (writeH_len _ _ _ _ hA1) hsl hsB (writeL_bd hAB (sizeT_bd _ _ _)) (writeL_lt ..) m
          have htl := tagS_len R (writeH A.1 R A.2 (sizeT along.length cipher.length j)) S (writeL A.2 (sizeT along.length cipher.length j))
          clear m hZ
          go_wp2_with (first | (go_at_call 95; refine hw3.mono ?_; clear hw3; rintro e wA ⟨rfl, mA⟩) | (go_at_call 96; refine (hw4 _ mA).mono ?_; clear hw4; rintro e wB ⟨rfl, hBB⟩; have hOB := below_block hBB (below_block mA.below hO1 (by omega)) (by have := mA.size; omega); have hBBw : Below w.heap.size w wB := hBw1.trans ((mA.below.mono (by omega)).trans (hBB.mono (by have := mA.size; omega))); clear mA hBB) | (refine st_row (n := 16) (cs := ints .u8 (tagS R (writeH A.1 R A.2 (sizeT along.length cipher.length j)) S (writeL A.2 (sizeT along.length cipher.length j)))) rfl (ty := 24) rfl rfl rfl (by exact hOB) (by kernel_rfl) (by rw [size_ints, zerosL_len]) (by rw [size_ints, htl]) (oneCell_ints _ _) ?_))
          refine end_row (n := 16) rfl rfl (setRow_heap _ _ _ _ 24 (0,0) (by exact hOB)) Tryd.underlying24 rfl (by kernel_rfl) (by rw [size_ints, htl]) rfl ⟨?_, belowRow hBBw (by omega) _⟩
          rw [HA.out, hk'.out, hj'.out, HR.out, HS.out, HK.out]; rfl
attribute [irreducible] aeadT partsT partT
end Go.Proofs.YtjieiijbgbkikaaDoor
end
section
/- Package aead: Seal, Open. -/
namespace Go.Proofs.YtjieiijbgbkikaaDoor
open Go Go.RowKit
set_option maxRecDepth 100000
attribute [local go_sem] cell?_eq frozen?_eq heap_setCell_eq heap_setCell_ne

theorem xorTo_bd (key nonce : List Int) (c : Int) (l : List Int) (k : Nat) : Bd 256 (xorTo key nonce c l k) := by
  induction k with
  | zero => unfold xorTo; exact Bd.zerosL (by decide) _
  | succ k ih => unfold xorTo; exact ih.set _ _ (bits_u8_bd ..).1 (bits_u8_bd ..).2
theorem xorS_bd (key nonce : List Int) (c : Int) (l : List Int) : Bd 256 (xorS key nonce c l) := by unfold xorS; exact xorTo_bd _ _ _ _ _
def sealS (key nonce plain along : List Int) : List Int := xorS key nonce 1 plain ++ aeadT key nonce (xorS key nonce 1 plain) along
theorem sealS_len (key nonce plain along : List Int) : (sealS key nonce plain along).length = plain.length + 16 := by rw [sealS, List.length_append, xorS_len, aeadT_len]

set_option maxHeartbeats 8000000 in
theorem seal_any (key nonce plain along : List Int) (hk : key.length = 32) (hn : nonce.length = 12) (hkB : Bd 256 key) (hnB : Bd 256 nonce) (haB : Bd 256 along) (hpl : plain.length ≤ 65536) (hal : along.length ≤ 65536)
    (pp ap : Option Addr) (pc ac : Nat) (w : World) (hC : Cols w) (hpS : SL .u8 w pp plain) (haS : SL .u8 w ap along) :
    Calls Tryd.prog 24 #[.agg (ints .u8 key), .agg (ints .u8 nonce), .slice pp plain.length pc, .slice ap along.length ac] w fun e w' => ∃ v, e = .returned (.tuple #[v, .int .i64 0]) ∧ Own w.heap.size w' 5 .u8 v (sealS key nonce plain along) ∧ Below w.heap.size w w' := by
  have hwC := hC.lt
  have p1 : ¬ (65536 < (plain.length : Int)) := by omega
  have p2 : ¬ (65536 < (along.length : Int)) := by omega
  have hA0 : Below w.heap.size w ((w.alloc (.cells (ints .u8 key) 31)).alloc (.cells (ints .u8 nonce) 62)) := ((Below.refl _ _).alloc (Nat.le_refl _) _).alloc (by simp) _
  have hx := xor_any key nonce hk hn hkB hnB 1 (by decide) (by decide) plain (by omega) pp pc _ (hC.below hA0 hwC) (hpS.below hA0)
  have hxl := xorS_len key nonce 1 plain
  have hxB := xorS_bd key nonce 1 plain
  obtain ⟨X, hX⟩ : ∃ X, X = xorS key nonce 1 plain := ⟨_, rfl⟩
  rw [← hX] at hx hxl hxB
  have HX := Lib.hid hX; clear hX
  have ht := fun w1 hC1 cp cc hc ha => atag_any key nonce X along hk hn hkB hnB hxB haB (by omega) (by omega) cp ap cc ac w1 hC1 hc ha
  rw [hxl] at ht
  have htl := aeadT_len key nonce X along
  obtain ⟨T, hT⟩ : ∃ T, T = aeadT key nonce X along := ⟨_, rfl⟩
  rw [← hT] at ht htl
  have HT := Lib.hid hT; clear hT
  go_enter Tryd.func24, Tryd.ntmps24
  go_wp2_with (first | (refine ld_ints rfl (ty := 31) rfl rfl (by exact blk2_0 _ _ _) Tryd.underlying31 (by kernel_rfl) hk ?_) | (refine ld_ints rfl (ty := 62) rfl rfl (by exact blk2_1 _ _ _) Tryd.underlying62 (by kernel_rfl) hn ?_) | (go_at_call 45; fail))
  refine hx.mono ?_
  clear hx
  rintro e w1 ⟨p', cap', rfl, hO1, hB1⟩
  have hK1 := below_block hB1 (blk2_0 _ _ _) (by simp <;> omega)
  have hN1 := below_block hB1 (blk2_1 _ _ _) (by simp <;> omega)
  have hBw := hA0.trans (hB1.mono (by simp; omega))
  have hS1 : SL .u8 w1 p' X := by
    obtain ⟨a, b, e, h, _⟩ := hO1.form
    rw [hxl] at e
    cases e; exact h
  have hO1' := Lib.hid (hO1.mono (show w.heap.size ≤ _ by simp; omega))
  clear hO1 hB1
  have ht1 := ht w1 (hC.below hBw hwC) p' cap' hS1 (haS.below hBw)
  clear ht
  go_wp2_with (first | (refine ld_ints rfl (ty := 31) rfl rfl (by exact hK1) Tryd.underlying31 (by kernel_rfl) hk ?_) | (refine ld_ints rfl (ty := 62) rfl rfl (by exact hN1) Tryd.underlying62 (by kernel_rfl) hn ?_) | (go_at_call 46; fail))
  refine ht1.mono ?_
  clear ht1
  rintro e w2 ⟨rfl, hB2⟩
  have hO2 := hO1'.out.below hB2
  have hBw2 := hBw.trans (hB2.mono hBw.size)
  clear hB2 hK1 hN1 hS1
  go_wp2_with (first | (refine al_row rfl (T := 24) rfl (cs := ints .u8 (zerosL 16)) (by kernel_rfl) ?_) | (refine st_row (n := 16) rfl (ty := 24) rfl rfl rfl (by exact heap_alloc_at _ _ _ rfl) (by kernel_rfl) (by rw [size_ints, zerosL_len]) (by rw [size_ints, htl]) (oneCell_ints _ _) ?_; rw [setRow_alloc_at _ _ _ _ _ rfl]) | (refine ap_ints rfl rfl Tryd.underlying25 (E := 5) (k := .u8) (by' := 1) (by kernel_rfl) (by decide) (base := w.heap.size) (v := .slice p' plain.length cap') (l := X) (m := T) rfl (by exact hO2.below ((Below.refl _ _).alloc (Nat.le_refl _) _)) rfl htl.symm (by exact SL.row_all (heap_alloc_at _ _ _ rfl)) (by omega) (by exact Nat.le_trans hBw2.size (by simp)) ?_; intro v3 w3 hO3 hg3 _))
  refine bodyPost_ret (v := .tuple #[v3, .int .i64 0]) (by simp [results, Tryd.results24, go_sem]) rfl ⟨_, rfl, ?_, ?_⟩
  · rw [HX.out, HT.out, HX.out] at hO3; exact hO3
  · exact (hO2.below ((Below.refl _ _).alloc (Nat.le_refl _) _)).grown (hBw2.alloc hBw2.size _) (Nat.le_trans hBw2.size (by simp)) hg3
/-- What is too long is not sealed. -/
theorem seal_long (key nonce plain along : List Int) (h : 65536 < plain.length ∨ 65536 < along.length) (pp ap : Option Addr) (pc ac : Nat) (w : World) :
    Calls Tryd.prog 24 #[.agg (ints .u8 key), .agg (ints .u8 nonce), .slice pp plain.length pc, .slice ap along.length ac] w fun e w' => e = .returned (.tuple #[.slice none 0 0, .int .i64 3]) ∧ Below w.heap.size w w' := by
  have hA0 : Below w.heap.size w ((w.alloc (.cells (ints .u8 key) 31)).alloc (.cells (ints .u8 nonce) 62)) := ((Below.refl _ _).alloc (Nat.le_refl _) _).alloc (by simp) _
  have e0 : (65536 < (plain.length : Int)) = (65536 < plain.length) := propext (by omega)
  have e1 : (65536 < (along.length : Int)) = (65536 < along.length) := propext (by omega)
  by_cases hp : 65536 < plain.length
  · have hp' : 65536 < (plain.length : Int) := by omega
    clear h e0 e1
    go_enter Tryd.func24, Tryd.ntmps24
    go_wp2
    exact bodyPost_ret (v := .tuple #[.slice none 0 0, .int .i64 3]) (by simp [results, Tryd.results24, go_sem]) rfl ⟨rfl, hA0⟩
  · have ha : 65536 < (along.length : Int) := by omega
    have hp' : ¬ 65536 < (plain.length : Int) := by omega
    clear h e0 e1
    go_enter Tryd.func24, Tryd.ntmps24
    go_wp2
    exact bodyPost_ret (v := .tuple #[.slice none 0 0, .int .i64 3]) (by simp [results, Tryd.results24, go_sem]) rfl ⟨rfl, hA0⟩
attribute [irreducible] sealS
end Go.Proofs.YtjieiijbgbkikaaDoor
end
section
/- Package aead: Open. -/
namespace Go.Proofs.YtjieiijbgbkikaaDoor
open Go Go.RowKit
set_option maxRecDepth 100000
attribute [local go_sem] cell?_eq frozen?_eq heap_setCell_eq heap_setCell_ne

/-- Sealed bytes opened: the plain ones, or the error. -/
def tagOk (key nonce c along : List Int) : Bool := equalS (aeadT key nonce (c.take (c.length - 16)) along) (c.drop (c.length - 16))
/-- What Open answers. -/
def OpenPost (B : Nat) (ok : Bool) (l : List Int) (w : World) (e : Ending) (w' : World) : Prop :=
  if ok then ∃ v, e = .returned (.tuple #[v, .int .i64 0]) ∧ Own B w' 5 .u8 v l ∧ Below B w w'
  else e = .returned (.tuple #[.slice none 0 0, .int .i64 12]) ∧ Below B w w'
set_option maxHeartbeats 8000000 in
theorem open_any (key nonce c along : List Int) (hk : key.length = 32) (hn : nonce.length = 12) (hkB : Bd 256 key) (hnB : Bd 256 nonce) (haB : Bd 256 along) (hcB : Bd 256 c) (hc0 : 16 ≤ c.length) (hc1 : c.length ≤ 65552) (hal : along.length ≤ 65536)
    (pp ap : Option Addr) (pc ac : Nat) (hpc : c.length ≤ pc) (w : World) (hC : Cols w) (hpS : SL .u8 w pp c) (haS : SL .u8 w ap along) :
    Calls Tryd.prog 26 #[.agg (ints .u8 key), .agg (ints .u8 nonce), .slice pp c.length pc, .slice ap along.length ac] w (OpenPost w.heap.size (tagOk key nonce c along) (xorS key nonce 1 (c.take (c.length - 16))) w) := by
  have hwC := hC.lt
  obtain ⟨n, hnl⟩ : ∃ n, n = c.length - 16 := ⟨_, rfl⟩
  have c16 : c.length = n + 16 := by omega
  have hA0 : Below w.heap.size w ((w.alloc (.cells (ints .u8 key) 31)).alloc (.cells (ints .u8 nonce) 62)) := ((Below.refl _ _).alloc (Nat.le_refl _) _).alloc (by simp) _
  have i1 : IntKind.i64.wrap ((n : Int) + 16 - 16) = (n : Int) := by rw [show (n : Int) + 16 - 16 = n by omega]; exact IntWalk.i64_in _ (by omega)
  obtain ⟨b, off, rfl, _⟩ := hpS.open (i := 0) (by omega)
  rw [← hnl]
  rw [c16]
  have p1 : ¬ ((n : Int) < 0) := by omega
  have p2 : ¬ (65536 < (n : Int)) := by omega
  have p3 : ¬ (65536 < (along.length : Int)) := by omega
  have C16 := Lib.hid c16
  clear c16 hnl
  go_enter Tryd.func26, Tryd.ntmps26
  go_wp2
  have hK0 := blk2_0 w (.cells (ints .u8 key) 31) (.cells (ints .u8 nonce) 62)
  have hN0 := blk2_1 w (.cells (ints .u8 key) 31) (.cells (ints .u8 nonce) 62)
  have hz0 : w.heap.size + 2 ≤ ((w.alloc (.cells (ints .u8 key) 31)).alloc (.cells (ints .u8 nonce) 62)).heap.size := by simp
  generalize (w.alloc (.cells (ints .u8 key) 31)).alloc (.cells (ints .u8 nonce) 62) = W0 at *
  have hld : ∀ wx : World, Below w.heap.size w wx → (Instr.loadAt 24 (.pointer (some ⟨b, off + n, none⟩))).run Tryd.prog wx = .ok (.agg (ints .u8 (c.drop n))) wx := fun wx hb => by
    have h1 := (hpS.below hb).sub n 16 (by have := C16.out; omega)
    rw [List.take_of_length_le (by rw [List.length_drop]; have := C16.out; omega)] at h1
    exact run_loadAt_SL h1 (by rw [List.length_drop]; have := C16.out; omega) Tryd.underlying24 (by kernel_rfl)
  have hldk : ∀ wx : World, Quiet W0 wx → (Instr.loadAt 31 (.pointer (some ⟨w.heap.size, 0, none⟩))).run Tryd.prog wx = .ok (.agg (ints .u8 key)) wx := fun wx hq =>
    run_loadAt_SL (SL.row_all (show wx.heap[w.heap.size]? = _ by rw [hq.heap]; exact hK0)) hk Tryd.underlying31 (by kernel_rfl)
  have hldn : ∀ wx : World, Quiet W0 wx → (Instr.loadAt 62 (.pointer (some ⟨w.heap.size + 1, 0, none⟩))).run Tryd.prog wx = .ok (.agg (ints .u8 nonce)) wx := fun wx hq =>
    run_loadAt_SL (SL.row_all (show wx.heap[w.heap.size + 1]? = _ by rw [hq.heap]; exact hN0)) hn Tryd.underlying62 (by kernel_rfl)
  have htl : (c.take n).length = n := by rw [List.length_take]; have := C16.out; omega
  have hdl : (c.drop n).length = 16 := by rw [List.length_drop]; have := C16.out; omega
  have ht := fun w1 (hb : Below w.heap.size w w1) => atag_any key nonce (c.take n) along hk hn hkB hnB (hcB.take (by decide) _) haB (by omega) (by omega) (some ⟨b, off, none⟩) ap pc ac w1 (hC.below hb hwC) (by have h1 := (hpS.below hb).sub 0 n (by have := C16.out; omega); rwa [List.drop_zero] at h1) (haS.below hb)
  rw [htl] at ht
  have hxx := fun w1 (hb : Below w.heap.size w w1) => xor_any key nonce hk hn hkB hnB 1 (by decide) (by decide) (c.take n) (by omega) (some ⟨b, off, none⟩) pc w1 (hC.below hb hwC) (by have h1 := (hpS.below hb).sub 0 n (by have := C16.out; omega); rwa [List.drop_zero] at h1)
  rw [htl] at hxx
  have hal' := aeadT_len key nonce (c.take n) along
  have he := fun w1 => equal_any (aeadT key nonce (c.take n) along) (c.drop n) hal' hdl w1
  have har : ∀ wx, (Instr.arrayAt 24 (.slice (some ⟨b, off + n, none⟩) 16 (pc - n))).run Tryd.prog wx = .ok (.pointer (some ⟨b, off + n, none⟩)) wx := fun wx => run_arrayAt wx _ _ 16 _ 16 (pc - n) Tryd.underlying24 (Nat.le_refl _)
  have n1 : (n : Int) ≤ (pc : Int) := by have := C16.out; omega
  have n2 : (n : Int) ≤ (n : Int) + 16 := by omega
  have n3 : ¬ pc = n := by have := C16.out; omega
  have n4 : n + 16 - n = 16 := by omega
  have hqA : ∀ wx, Quiet W0 wx → Below w.heap.size w wx := fun wx hq => hA0.trans (hq.below _)
  refine wp_region_E [6] (S1 (fun w' => Below w.heap.size w w') (fun w' => Quiet W0 w')) (by kernel_rfl) ?_
  have hq0 : Quiet W0 W0.drew := ⟨1, rfl⟩
  have hS0 : S1 (fun w' => Below w.heap.size w w') (fun w' => Quiet W0 w') [false] W0.drew := ⟨hqA _ hq0, fun _ => hq0⟩
  try simp only [Act.put, List.setIfInBounds_toArray, List.set_cons_zero, List.set_cons_succ]
  refine takeB (i := 0) (v := ?_) rfl (by kernel_rfl) (fun _ _ _ h => h) rfl (by kernel_rfl) (by exact hS0) (fun wx hx hb => ?_) ?_
  rotate_left
  · have hqx := hb; refine (exec_load (p := .pointer (some ⟨w.heap.size, 0, none⟩)) rfl rfl (hldk _ hqx)).trans ?_; with_reducible rfl
  try simp only [Act.put, List.setIfInBounds_toArray, List.set_cons_zero, List.set_cons_succ]
  refine takeB (i := 1) (v := ?_) rfl (by kernel_rfl) (fun _ _ _ h => h) rfl (by kernel_rfl) (by exact hS0) (fun wx hx hb => ?_) ?_
  rotate_left
  · have hqx := hb; refine (exec_load (p := .pointer (some ⟨w.heap.size + 1, 0, none⟩)) rfl rfl (hldn _ hqx)).trans ?_; with_reducible rfl
  try simp only [Act.put, List.setIfInBounds_toArray, List.set_cons_zero, List.set_cons_succ]
  refine takeB (i := 2) (v := ?_) rfl (by kernel_rfl) (fun _ _ _ h => h) rfl (by kernel_rfl) (by exact hS0) (fun wx hx hb => ?_) ?_
  rotate_left
  · have hqx := hb; go_simp; try with_reducible rfl
  try simp only [Act.put, List.setIfInBounds_toArray, List.set_cons_zero, List.set_cons_succ]
  refine takeB (i := 3) (v := ?_) rfl (by kernel_rfl) (fun _ _ _ h => h) rfl (by kernel_rfl) (by exact hS0) (fun wx hx hb => ?_) ?_
  rotate_left
  · have hqx := hb; go_simp; try with_reducible rfl
  try simp only [Act.put, List.setIfInBounds_toArray, List.set_cons_zero, List.set_cons_succ]
  refine takeB (i := 4) (v := ?_) rfl (by kernel_rfl) (fun _ _ _ h => h) rfl (by kernel_rfl) (by exact hS0) (fun wx hx hb => ?_) ?_
  rotate_left
  · have hqx := hb; go_simp; try with_reducible rfl
  try simp only [Act.put, List.setIfInBounds_toArray, List.set_cons_zero, List.set_cons_succ]
  refine takeB (i := 5) (v := ?_) rfl (by kernel_rfl) (fun _ _ _ h => h) rfl (by kernel_rfl) (by exact hS0) (fun wx hx hb => ?_) ?_
  rotate_left
  · have hqx := hb; go_simp; try with_reducible rfl
  try simp only [Act.put, List.setIfInBounds_toArray, List.set_cons_zero, List.set_cons_succ]
  refine takeA (i := 7) (v := ?_) rfl (by kernel_rfl) (fun _ _ _ h => h) rfl (by exact hS0) (fun wx hx => ?_) ?_
  rotate_left
  · go_simp; try with_reducible rfl
  try simp only [Act.put, List.setIfInBounds_toArray, List.set_cons_zero, List.set_cons_succ]
  refine takeA (i := 8) (v := ?_) rfl (by kernel_rfl) (fun _ _ _ h => h) rfl (by exact hS0) (fun wx hx => ?_) ?_
  rotate_left
  · go_simp; try with_reducible rfl
  try simp only [Act.put, List.setIfInBounds_toArray, List.set_cons_zero, List.set_cons_succ]
  refine takeA (i := 9) (v := ?_) rfl (by kernel_rfl) (fun _ _ _ h => h) rfl (by exact hS0) (fun wx hx => ?_) ?_
  rotate_left
  · go_simp; try with_reducible rfl
  try simp only [Act.put, List.setIfInBounds_toArray, List.set_cons_zero, List.set_cons_succ]
  refine takeA (i := 10) (v := ?_) rfl (by kernel_rfl) (fun _ _ _ h => h) rfl (by exact hS0) (fun wx hx => ?_) ?_
  rotate_left
  · go_simp; try with_reducible rfl
  try simp only [Act.put, List.setIfInBounds_toArray, List.set_cons_zero, List.set_cons_succ]
  refine takeA (i := 11) (v := ?_) rfl (by kernel_rfl) (fun _ _ _ h => h) rfl (by exact hS0) (fun wx hx => ?_) ?_
  rotate_left
  · refine (exec_load (p := .pointer (some ⟨b, off + n, none⟩)) rfl rfl (hld _ hx)).trans ?_; with_reducible rfl
  try simp only [Act.put, List.setIfInBounds_toArray, List.set_cons_zero, List.set_cons_succ]
  refine runOne (i := 6) (by kernel_rfl) rfl rfl ?_
  go_simp
  refine (ht _ (hqA _ hq0)).mono ?_
  rintro e w1 ⟨rfl, hB1⟩
  have hBw1 := (hqA _ hq0).trans (hB1.mono (by show _ ≤ W0.heap.size; omega))
  have hS1 : S1 (fun w' => Below w.heap.size w w') (fun w' => Quiet W0 w') [true] w1 := ⟨hBw1, fun h => by cases h⟩
  refine ⟨by exact hS1, ?_⟩
  try simp only [Act.put, List.setIfInBounds_toArray, List.set_cons_zero, List.set_cons_succ]
  refine runOne (i := 12) (by kernel_rfl) rfl rfl ?_
  go_simp
  refine (he _).mono ?_
  rintro e w2 ⟨rfl, hB2⟩
  have hBw2 := hBw1.trans (hB2.mono hBw1.size)
  have hS2 : S1 (fun w' => Below w.heap.size w w') (fun w' => Quiet W0 w') [true] w2 := ⟨hBw2, fun h => by cases h⟩
  refine ⟨by exact hS2, ?_⟩
  try simp only [Act.put, List.setIfInBounds_toArray, List.set_cons_zero, List.set_cons_succ]
  refine takeA (i := 13) (v := ?_) rfl (by kernel_rfl) (fun _ _ _ h => h) rfl (by exact hS2) (fun wx hx => ?_) ?_
  rotate_left
  · go_simp; try with_reducible rfl
  try simp only [Act.put, List.setIfInBounds_toArray, List.set_cons_zero, List.set_cons_succ]
  refine wpAnyE_done (by kernel_rfl) ?_ _
  have hK2 := below_block hB2 (below_block hB1 (show W0.drew.heap[w.heap.size]? = _ from hK0) (by show _ < W0.heap.size; omega)) (by have := hB1.size; have h0 : W0.drew.heap.size = W0.heap.size := rfl; omega)
  have hN2 := below_block hB2 (below_block hB1 (show W0.drew.heap[w.heap.size + 1]? = _ from hN0) (by show _ < W0.heap.size; omega)) (by have := hB1.size; have h0 : W0.drew.heap.size = W0.heap.size := rfl; omega)
  have hT : tagOk key nonce c along = equalS (aeadT key nonce (c.take n) along) (c.drop n) := by unfold tagOk; rw [C16.out, Nat.add_sub_cancel]
  have HT := Lib.hid hT
  clear hT ht he hld hldk hldn hqA hS0 hS1 hS2 hB1 hB2 hK0 hN0 hBw1 hq0
  cases hE : equalS (aeadT key nonce (c.take n) along) (c.drop n) with
  | false =>
    have HE := Lib.hid hE
    clear hE hxx hK2 hN2
    go_wp2
    refine bodyPost_ret (v := .tuple #[.slice none 0 0, .int .i64 12]) (by simp [results, Tryd.results26, go_sem]) rfl ?_
    unfold OpenPost
    rw [if_neg (by rw [HT.out, HE.out]; decide)]
    exact ⟨rfl, hBw2⟩
  | true =>
    have HE := Lib.hid hE
    clear hE
    have hx3 := Lib.hid (hxx w2.drew (hBw2.drew))
    clear hxx
    go_wp2
    have hldk : ∀ wx : World, Quiet w2 wx → (Instr.loadAt 31 (.pointer (some ⟨w.heap.size, 0, none⟩))).run Tryd.prog wx = .ok (.agg (ints .u8 key)) wx := fun wx hq =>
      run_loadAt_SL (SL.row_all (show wx.heap[w.heap.size]? = _ by rw [hq.heap]; exact hK2)) hk Tryd.underlying31 (by kernel_rfl)
    have hldn : ∀ wx : World, Quiet w2 wx → (Instr.loadAt 62 (.pointer (some ⟨w.heap.size + 1, 0, none⟩))).run Tryd.prog wx = .ok (.agg (ints .u8 nonce)) wx := fun wx hq =>
      run_loadAt_SL (SL.row_all (show wx.heap[w.heap.size + 1]? = _ by rw [hq.heap]; exact hN2)) hn Tryd.underlying62 (by kernel_rfl)
    refine wp_region_E [5] (S1 (fun w' => True) (fun w' => Quiet w2 w')) (by kernel_rfl) ?_
    have hq0 : Quiet w2 w2.drew := ⟨1, rfl⟩
    have hS0 : S1 (fun w' => True) (fun w' => Quiet w2 w') [false] w2.drew := ⟨trivial, fun _ => hq0⟩
    try simp only [Act.put, List.setIfInBounds_toArray, List.set_cons_zero, List.set_cons_succ]
    refine takeB (i := 0) (v := ?_) rfl (by kernel_rfl) (fun _ _ _ h => h) rfl (by kernel_rfl) (by exact hS0) (fun wx hx hb => ?_) ?_
    rotate_left
    · have hqx := hb; refine (exec_load (p := .pointer (some ⟨w.heap.size, 0, none⟩)) rfl rfl (hldk _ hqx)).trans ?_; with_reducible rfl
    try simp only [Act.put, List.setIfInBounds_toArray, List.set_cons_zero, List.set_cons_succ]
    refine takeB (i := 1) (v := ?_) rfl (by kernel_rfl) (fun _ _ _ h => h) rfl (by kernel_rfl) (by exact hS0) (fun wx hx hb => ?_) ?_
    rotate_left
    · have hqx := hb; refine (exec_load (p := .pointer (some ⟨w.heap.size + 1, 0, none⟩)) rfl rfl (hldn _ hqx)).trans ?_; with_reducible rfl
    try simp only [Act.put, List.setIfInBounds_toArray, List.set_cons_zero, List.set_cons_succ]
    refine takeB (i := 2) (v := ?_) rfl (by kernel_rfl) (fun _ _ _ h => h) rfl (by kernel_rfl) (by exact hS0) (fun wx hx hb => ?_) ?_
    rotate_left
    · have hqx := hb; go_simp; try with_reducible rfl
    try simp only [Act.put, List.setIfInBounds_toArray, List.set_cons_zero, List.set_cons_succ]
    refine takeB (i := 3) (v := ?_) rfl (by kernel_rfl) (fun _ _ _ h => h) rfl (by kernel_rfl) (by exact hS0) (fun wx hx hb => ?_) ?_
    rotate_left
    · have hqx := hb; go_simp; try with_reducible rfl
    try simp only [Act.put, List.setIfInBounds_toArray, List.set_cons_zero, List.set_cons_succ]
    refine takeB (i := 4) (v := ?_) rfl (by kernel_rfl) (fun _ _ _ h => h) rfl (by kernel_rfl) (by exact hS0) (fun wx hx hb => ?_) ?_
    rotate_left
    · have hqx := hb; go_simp; try with_reducible rfl
    try simp only [Act.put, List.setIfInBounds_toArray, List.set_cons_zero, List.set_cons_succ]
    refine runOne (i := 5) (by kernel_rfl) rfl rfl ?_
    go_simp
    refine (hx3.out).mono ?_
    rintro e w3 ⟨p3, c3, rfl, hO3, hB3⟩
    have hS1 : S1 (fun w' => True) (fun w' => Quiet w2 w') [true] w3 := ⟨trivial, fun h => by cases h⟩
    refine ⟨by exact hS1, ?_⟩
    try simp only [Act.put, List.setIfInBounds_toArray, List.set_cons_zero, List.set_cons_succ]
    refine takeA (i := 6) (v := ?_) rfl (by kernel_rfl) (fun _ _ _ h => h) rfl (by exact hS1) (fun wx hx => ?_) ?_
    rotate_left
    · go_simp; try with_reducible rfl
    try simp only [Act.put, List.setIfInBounds_toArray, List.set_cons_zero, List.set_cons_succ]
    refine takeA (i := 7) (v := ?_) rfl (by kernel_rfl) (fun _ _ _ h => h) rfl (by exact hS1) (fun wx hx => ?_) ?_
    rotate_left
    · go_simp; try with_reducible rfl
    try simp only [Act.put, List.setIfInBounds_toArray, List.set_cons_zero, List.set_cons_succ]
    refine takeA (i := 8) (v := ?_) rfl (by kernel_rfl) (fun _ _ _ h => h) rfl (by exact hS1) (fun wx hx => ?_) ?_
    rotate_left
    · go_simp; try with_reducible rfl
    try simp only [Act.put, List.setIfInBounds_toArray, List.set_cons_zero, List.set_cons_succ]
    refine takeA (i := 9) (v := ?_) rfl (by kernel_rfl) (fun _ _ _ h => h) rfl (by exact hS1) (fun wx hx => ?_) ?_
    rotate_left
    · go_simp; try with_reducible rfl
    try simp only [Act.put, List.setIfInBounds_toArray, List.set_cons_zero, List.set_cons_succ]
    refine wpAnyE_done (by kernel_rfl) ?_ _
    go_wp2
    refine bodyPost_ret (v := .tuple #[.slice p3 n c3, .int .i64 0]) (by simp [results, Tryd.results26, go_sem]) rfl ?_
    unfold OpenPost
    rw [if_pos (by rw [HT.out, HE.out])]
    exact ⟨_, rfl, hO3.mono hBw2.size, hBw2.drew.trans (hB3.mono hBw2.size)⟩
end Go.Proofs.YtjieiijbgbkikaaDoor
end
section
/- Package lease: Nonce. -/
namespace Go.Proofs.YtjieiijbgbkikaaDoor
open Go Go.RowKit
set_option maxRecDepth 100000
attribute [local go_sem] cell?_eq frozen?_eq heap_setCell_eq heap_setCell_ne

/-- The bytes of an epoch and a number. -/
def nonceA (epoch : Int) : Nat → List Int
  | 0 => zerosL 12
  | k + 1 => (nonceA epoch k).set k (epoch / 2 ^ (24 - 8 * k) % 256)
def nonceB (epoch n : Int) : Nat → List Int
  | 0 => nonceA epoch 4
  | k + 1 => (nonceB epoch n k).set (4 + k) (n / 2 ^ (56 - 8 * k) % 256)
theorem nonceA_len (epoch : Int) (k : Nat) : (nonceA epoch k).length = 12 := by induction k <;> simp [nonceA, zerosL_len, *]
theorem nonceB_len (epoch n : Int) (k : Nat) : (nonceB epoch n k).length = 12 := by induction k <;> simp [nonceB, nonceA_len, *]
theorem nonceA_bd (epoch : Int) (k : Nat) : Bd 256 (nonceA epoch k) := by
  induction k with
  | zero => exact Bd.zerosL (by decide) _
  | succ k ih => exact ih.set _ _ (by omega) (by omega)
theorem nonceB_bd (epoch n : Int) (k : Nat) : Bd 256 (nonceB epoch n k) := by
  induction k with
  | zero => exact nonceA_bd _ _
  | succ k ih => exact ih.set _ _ (by omega) (by omega)
theorem nonceA_zero (epoch : Int) : nonceA epoch 0 = zerosL 12 := rfl
theorem nonceA_succ (epoch : Int) (k : Nat) : nonceA epoch (k + 1) = (nonceA epoch k).set k (epoch / 2 ^ (24 - 8 * k) % 256) := rfl
theorem nonceB_zero (epoch n : Int) : nonceB epoch n 0 = nonceA epoch 4 := rfl
theorem nonceB_succ (epoch n : Int) (k : Nat) : nonceB epoch n (k + 1) = (nonceB epoch n k).set (4 + k) (n / 2 ^ (56 - 8 * k) % 256) := rfl
attribute [irreducible] nonceA nonceB
def nonceS (epoch n : Int) : List Int := nonceB epoch n 8
theorem nonceS_len (epoch n : Int) : (nonceS epoch n).length = 12 := nonceB_len _ _ _
theorem nonceS_bd (epoch n : Int) : Bd 256 (nonceS epoch n) := nonceB_bd _ _ _
set_option maxHeartbeats 4000000 in
theorem nonce_any (epoch n : Int) (w : World) :
    Calls Tryd.prog 25 #[.int .u32 epoch, .int .u64 n] w fun e w' => e = .returned (.agg (ints .u8 (nonceS epoch n))) ∧ Below w.heap.size w w' := by
  go_enter Tryd.func25, Tryd.ntmps25
  go_wp2_with (first | (refine al_row rfl (T := 62) rfl (cs := ints .u8 (zerosL 12)) (by kernel_rfl) ?_))
  go_loopw [5, 7] (fun _ i wr => ∃ k : Nat, k ≤ 4 ∧ i = .int .i64 k ∧ wr.heap[w.heap.size]? = some (.cells (ints .u8 (nonceA epoch k)) 62 (0, 0)) ∧ Below w.heap.size w wr) (fun _ i _ => 4 - (intOf i).toNat)
  case atStart => exact ⟨0, by omega, rfl, by rw [nonceA_zero]; exact blk1_0 _ _, (Below.refl _ _).alloc (Nat.le_refl _) _⟩
  case round =>
    obtain ⟨k, hk, rfl, hO, hB⟩ := hrel
    have hol := nonceA_len epoch k
    by_cases hlt : k < 4
    · have i1 : (k : Int) < 12 := by omega
      have i2 : k < 12 := by omega
      have i3 : (0 : Int) ≤ 24 - 8 * (k : Int) := by omega
      have i4 : (24 - 8 * (k : Int)).toNat = 24 - 8 * k := by omega
      go_wp2
      go_roundw
      case rel => exact ⟨k + 1, by omega, by go_num, by rw [nonceA_succ]; exact (by simp (disch := (first | omega | (simp only [World.size_alloc, World.size_drew, size_setRow, World.heap_drewN]; omega) | simp only [World.size_alloc, World.size_drew, size_setRow, World.heap_drewN])) only [World.heap_drewN, heap_drew, heap_alloc_past, heap_alloc_at, heap_setRow_ne, heap_setCell_eq, heap_setCell_ne', putOf_some, set_ints, hO]), hB.setCell (by simp) _⟩
      case measure => simp [intOf]; omega
    · have hk' := Lib.hid (show k = 4 by omega)
      go_wp2
      go_loopw [6, 19] (fun _ i wx => ∃ j : Nat, j ≤ 8 ∧ i = .int .i64 j ∧ wx.heap[w.heap.size]? = some (.cells (ints .u8 (nonceB epoch n j)) 62 (0, 0)) ∧ Below w.heap.size w wx) (fun _ i _ => 8 - (intOf i).toNat)
      case atStart => exact ⟨0, by omega, rfl, by rw [nonceB_zero, ← hk'.out]; exact hO, hB⟩
      case round =>
        clear hO hB hol
        obtain ⟨j, hj, rfl, hO, hB⟩ := hrel
        have hol := nonceB_len epoch n j
        by_cases hlt2 : j < 8
        · have i1 : 4 + (j : Int) < 12 := by omega
          have i2 : 4 + j < 12 := by omega
          have i3 : (0 : Int) ≤ 56 - 8 * (j : Int) := by omega
          have i4 : (56 - 8 * (j : Int)).toNat = 56 - 8 * j := by omega
          have i5 : (0 : Int) ≤ 4 + (j : Int) := by omega
          go_wp2
          go_roundw
          case rel => exact ⟨j + 1, by omega, by go_num, by rw [nonceB_succ]; exact (by simp (disch := (first | omega | (simp only [World.size_alloc, World.size_drew, size_setRow, World.heap_drewN]; omega) | simp only [World.size_alloc, World.size_drew, size_setRow, World.heap_drewN])) only [World.heap_drewN, heap_drew, heap_alloc_past, heap_alloc_at, heap_setRow_ne, heap_setCell_eq, heap_setCell_ne', putOf_some, set_ints, hO]), hB.setCell (by simp) _⟩
          case measure => simp [intOf]; omega
        · have hj' := Lib.hid (show j = 8 by omega)
          go_wp2_with (first | (refine ld_ints rfl (ty := 62) rfl rfl (by exact hO) Tryd.underlying62 (by kernel_rfl) hol ?_) | (refine st_row (n := 12) rfl (ty := 62) rfl rfl rfl (by exact hO) (by kernel_rfl) (by rw [size_ints, hol]) (by rw [size_ints, hol]) (oneCell_ints _ _) ?_))
          refine end_row (n := 12) rfl rfl (setRow_heap _ _ _ _ 62 (0,0) (by exact hO)) Tryd.underlying62 rfl (by kernel_rfl) (by rw [size_ints, hol]) rfl ⟨?_, belowRow hB (by omega) _⟩
          rw [hj'.out]; rfl
attribute [irreducible] nonceS
end Go.Proofs.YtjieiijbgbkikaaDoor
end
