/- Lemmas of a proof over the given program, joined by wip/join.py: KPkSeal KPkOp KKit KLawA KLawB. -/
import Derived.Test.YtjieiijbgbkikaaDoorJ01
import Derived.Test.YtjieiijbgbkikaaDoorJ03
import Derived.Test.YtjieiijbgbkikaaDoorJ05
import Derived.Test.YtjieiijbgbkikaaDoorJ09
import Derived.Test.YtjieiijbgbkikaaDoorJ11
set_option linter.unusedSimpArgs false
set_option linter.unusedVariables false
section
/- Package packet: Seal. -/
namespace Go.Proofs.YtjieiijbgbkikaaDoor
open Go Go.RowKit
set_option maxRecDepth 100000
attribute [local go_sem] cell?_eq frozen?_eq heap_setCell_eq heap_setCell_ne

theorem putS_bd {x : Pkt} (hx : PktOk x) {m : List Int} (hm : m.length ≤ 1048576) (hB : Bd 256 m) (n : Nat) : Bd 256 (putS n x m) := by
  have h0 := hx.epoch
  unfold putS
  split
  · exact numS_bd (u64_wrap_lim _)
  · exact numS_bd hx.session
  · exact numS_bd ⟨by omega, by omega⟩
  · exact numS_bd hx.count
  · exact hx.randomB.append (by decide) hx.markB
  · exact blkS_bd hB hm
theorem partsS_bd {x : Pkt} (hx : PktOk x) {m : List Int} (hm : m.length ≤ 1048576) (hB : Bd 256 m) (L : List Int) (k : Nat) : Bd 256 (partsS x m L k) := by
  induction k with
  | zero => exact Bd.nil (by decide)
  | succ k ih => exact ih.append (by decide) (putS_bd hx hm hB _)
theorem writeS_bd {x : Pkt} (hx : PktOk x) {m : List Int} (hm : m.length ≤ 1048576) (hB : Bd 256 m) : Bd 256 (writeS x m) := (numS_bd (u64_wrap_lim _)).append (by decide) (partsS_bd hx hm hB _ _)
theorem putS_le {x : Pkt} (hx : PktOk x) {m : List Int} (hm : m.length ≤ 1048576) (n : Nat) : (putS n x m).length ≤ m.length + 40 := by
  have h0 := hx.epoch
  unfold putS
  split
  · exact Nat.le_trans (numS_le (u64_wrap_lim _)) (by omega)
  · exact Nat.le_trans (numS_le hx.session) (by omega)
  · exact Nat.le_trans (numS_le ⟨by omega, by omega⟩) (by omega)
  · exact Nat.le_trans (numS_le hx.count) (by omega)
  · rw [List.length_append, hx.random, hx.mark]; omega
  · rw [blkS_len]; have := numN_u64 (x := (m.length : Int)) ⟨by omega, by omega⟩; simp at this; omega
theorem partsS_le {x : Pkt} (hx : PktOk x) {m : List Int} (hm : m.length ≤ 1048576) (L : List Int) (k : Nat) : (partsS x m L k).length ≤ k * (m.length + 40) := by
  induction k with
  | zero => simp [partsS]
  | succ k ih =>
    rw [partsS, List.length_append, Nat.succ_mul]
    have := putS_le hx hm (nth L k).toNat
    omega
theorem writeS_le {x : Pkt} (hx : PktOk x) {m : List Int} (hm : m.length ≤ 1048576) : (writeS x m).length ≤ 200 + 4 * m.length := by
  rw [writeS, List.length_append]
  have h1 := numS_le (u64_wrap_lim x.kind)
  have h2 := partsS_le hx hm (hasS x.kind) (hasS x.kind).length
  have h3 := hasS_len x.kind
  have h4 : (hasS x.kind).length * (m.length + 40) ≤ 4 * (m.length + 40) := Nat.mul_le_mul_right _ h3
  omega
theorem writeS_pos (x : Pkt) (m : List Int) : 0 < (writeS x m).length := by rw [writeS, List.length_append, numS_len]; omega
/-- A slice that may be written: its block and its bytes. -/
def Wr (base : Nat) (w : World) (v : Value) (l : List Int) : Prop :=
  ∃ g cap cur, v = .slice (some ⟨g, 0, none⟩) l.length cap ∧ base ≤ g ∧ w.heap[g]? = some (.cells cur 5 (0, 0)) ∧ l.length ≤ cap ∧ cap ≤ cur.size ∧ cur.toList.take l.length = l.map (Value.int .u8)
theorem Wr.of_own {base : Nat} {w : World} {v : Value} {l : List Int} (h : Own base w 5 .u8 v l) (hl : 0 < l.length) :
    ∃ g cap, v = .slice (some ⟨g, 0, none⟩) l.length cap ∧ l.length ≤ cap ∧ Wr base w (.slice (some ⟨g, 0, none⟩) l.length l.length) l ∧ Wr base w v l := by
  obtain ⟨h1, h2⟩ := h
  rcases h2 with ⟨rfl, h0⟩ | ⟨g, cap, cur, rfl, hb, hg, hle, hm, hs, ht⟩
  · omega
  · rw [Nat.mul_one] at hs ht
    exact ⟨g, cap, rfl, hle, ⟨g, l.length, cur, rfl, hb, hg, Nat.le_refl _, by omega, ht⟩, ⟨g, cap, cur, rfl, hb, hg, hle, by omega, ht⟩⟩
theorem Wr.sl {base : Nat} {w : World} {v : Value} {l : List Int} (h : Wr base w v l) : ∃ g cap, v = .slice (some ⟨g, 0, none⟩) l.length cap ∧ base ≤ g ∧ l.length ≤ cap ∧ SL .u8 w (some ⟨g, 0, none⟩) l := by
  obtain ⟨g, cap, cur, rfl, hb, hg, hle, hc, ht⟩ := h
  refine ⟨g, cap, rfl, hb, hle, .inr ⟨g, 0, rfl, fun i hi => ?_⟩⟩
  rw [cell?_eq, hg, cellOf_some]
  have h1 : (cur.toList.take l.length)[i]? = (l.map (Value.int .u8))[i]? := by rw [ht]
  rw [List.getElem?_take_of_lt hi, List.getElem?_map] at h1
  rw [Nat.zero_add, ← Array.getElem?_toList, h1, nth_lt hi]
  simp [hi]
theorem Wr.kep {base : Nat} {S : Nat → Prop} {w w' : World} {v : Value} {l : List Int} (h : Wr base w v l) (hk : Kep S w w') (hs : ∀ g, base ≤ g → (∃ c f, w.heap[g]? = some (.cells c 5 f)) → ¬ S g) : Wr base w' v l := by
  obtain ⟨g, cap, cur, rfl, hb, hg, r⟩ := h
  exact ⟨g, cap, cur, rfl, hb, hk.heap hg (hs g hb ⟨_, _, hg⟩), r⟩
theorem Wr.mono {base base' : Nat} {w : World} {v : Value} {l : List Int} (h : Wr base w v l) (hb : base' ≤ base) : Wr base' w v l := by
  obtain ⟨g, cap, cur, rfl, hb', r⟩ := h
  exact ⟨g, cap, cur, rfl, Nat.le_trans hb hb', r⟩
/-- The packet that Seal fills. -/
def sealX (session epoch n : Int) : Pkt := { pkt0 with kind := 3, session := session, epoch := epoch, count := n }
def psealS (secret : List Int) (way session epoch n : Int) (plain : List Int) : List Int := sealS (pkeyS secret epoch way) (nonceS epoch n) plain (writeS (sealX session epoch n) [])
def psealErr (session epoch n : Int) (pl : Nat) : Int := if 65536 < pl then 3 else if alongOk (sealX session epoch n) then 0 else 2
def PSealPost (secret : List Int) (way session epoch n : Int) (plain : List Int) (w : World) (e : Ending) (w' : World) : Prop :=
  (if psealErr session epoch n plain.length = 0 then ∃ vb, e = .returned (.tuple #[.agg (pktC (sealX session epoch n) vb), .int .i64 0]) ∧ Wr w.heap.size w' vb (psealS secret way session epoch n plain)
   else e = .returned (.tuple #[.agg (pktC pkt0 (.slice none 0 0)), .int .i64 (psealErr session epoch n plain.length)])) ∧ Below w.heap.size w w'
theorem sealX_ok {session epoch n : Int} (h1 : u64lim session) (h2 : 0 ≤ epoch ∧ epoch < 4294967296) (h3 : u64lim n) : PktOk (sealX session epoch n) :=
  ⟨h1, h2, h3, zerosL_len _, zerosL_len _, Bd.zerosL (by decide) _, Bd.zerosL (by decide) _⟩
set_option maxHeartbeats 8000000 in
theorem pseal_any (secret : List Int) (hs : secret.length = 32) (hsB : Bd 256 secret) (way session epoch n : Int) (h1 : u64lim session) (h2 : 0 ≤ epoch ∧ epoch < 4294967296) (h3 : u64lim n) (plain : List Int) (pp : Option Addr) (pc : Nat) (w : World)
    (hR : Rnd w) (hC : Cols w) (hpS : SL .u8 w pp plain) :
    Calls Tryd.prog 8 #[.agg (ints .u8 secret), .int .i64 way, .int .u64 session, .int .u32 epoch, .int .u64 n, .slice pp plain.length pc] w (PSealPost secret way session epoch n plain w) := by
  have hok := sealX_ok h1 h2 h3
  have hRlt := Lib.hid hR.lt
  have hClt := Lib.hid hC.lt
  obtain ⟨x, hx⟩ : ∃ x, x = sealX session epoch n := ⟨_, rfl⟩
  have hxv : ∀ v : Value, (Value.agg (pktC (sealX session epoch n) v)) = .agg (pktC x v) := fun v => by rw [hx]
  have HX := Lib.hid hx
  have HXV := Lib.hid hxv
  rw [← hx] at hok
  clear hx hxv
  go_enter Tryd.func8, Tryd.ntmps8
  by_cases hbig : 65536 < plain.length
  · have b1 : (65536 : Int) < (plain.length : Int) := by omega
    have HE : Hid (psealErr session epoch n plain.length = 3) := Lib.hid (by unfold psealErr; rw [if_pos hbig])
    clear hbig
    go_wp2_with (first | (refine bx_abs rfl (ty := 31) rfl rfl ?_; intro W0 Q hQ hB0 hz hQz) | (refine al_abs rfl (T := 27) rfl (cs := pktC pkt0 (.slice none 0 0)) (by kernel_rfl) ?_; intro W R hR0 hBR hzR hzR') | (refine bd_eq rfl (ty := 27) rfl (v := .agg (pktC pkt0 (.slice none 0 0))) (by kernel_rfl) ?_) | (refine st_row rfl (ty := 27) (cs := pktC pkt0 (.slice none 0 0)) rfl rfl rfl (by exact hR0) (n := 38) (by kernel_rfl) (pktC_size _ _) (pktC_size _ _) (pktC_one _ _ rfl) ?_))
    refine end_row_tmp (n := 38) rfl rfl rfl (by exact setRow_heap W R _ (pktC pkt0 (.slice none 0 0)) _ _ hR0) Tryd.underlying27 rfl (by kernel_rfl) (pktC_size _ _) rfl ?_
    unfold PSealPost
    rw [if_neg (by rw [HE.out]; decide), HE.out]
    exact ⟨rfl, belowRow (hB0.trans (hBR.mono hB0.size)) (by have := hB0.size; omega) _⟩
  · have b1 : ¬ (65536 : Int) < (plain.length : Int) := by omega
    have hpl : plain.length ≤ 65536 := by omega
    have HE : Hid (psealErr session epoch n plain.length = if alongOk x then 0 else 2) := Lib.hid (by unfold psealErr; rw [if_neg hbig, ← HX.out])
    clear hbig
    go_wp2_with (first | (refine bx_abs rfl (ty := 31) rfl rfl ?_; intro W0 Q hQ hB0 hz hQz) | (have hh := hR0; clear hh; refine al_abs rfl (T := 27) rfl (cs := pktC pkt0 (.slice none 0 0)) (by kernel_rfl) ?_; intro w3 X hX3 hB3 hzX hzX') | (refine al_abs rfl (T := 27) rfl (cs := pktC pkt0 (.slice none 0 0)) (by kernel_rfl) ?_; intro W R hR0 hBR hzR hzR'; have hQ1 := below_blk hBR hQ; clear hQ) | (refine bd_eq rfl (ty := 27) rfl (v := .agg (pktC x (.slice none 0 0))) (by rw [← HXV.out]; kernel_rfl) ?_) | (refine st_row rfl (ty := 27) (cs := pktC x (.slice none 0 0)) rfl rfl rfl (by exact hX3) (n := 38) (by kernel_rfl) (pktC_size _ _) (pktC_size _ _) (pktC_one _ _ rfl) ?_; have hX4 := setRow_heap w3 X _ (pktC x (.slice none 0 0)) _ _ hX3; have hk4 : Kep (fun b => b = X) W (w3.setRow X (pktC x (.slice none 0 0))) := Kep.setRow (S := fun b => b = X) (g := X) (Kep.of_below hB3 (fun b hb _ => hb)) (.inl rfl) _; generalize w3.setRow X (pktC x (.slice none 0 0)) = w4 at *; clear hX3 hB3) | (refine ld_row rfl (ty := 27) rfl rfl hX4 Tryd.underlying27 rfl (by kernel_rfl) (pktC_size _ _) ?_) | (go_at_call 14; fail))
    have hRX : R ≠ X := by have := hzR'.out; omega
    have hQX : Q ≠ X := by have := hQz.out; have := hBR.size; omega
    have hR4 := hk4.heap hR0 hRX
    have hQ4 := hk4.heap hQ1 hQX
    have hBw := hB0.trans (hBR.mono hB0.size)
    have hB4 := hk4.below hBw hBw.size (fun k e => by have := hB0.size; have := hBR.size; omega)
    have hzw : w.heap.size ≤ R := by have := hB0.size; omega
    have hpS4 := hpS.below hB4
    clear hk4 hR0 hQ1 hBR hB0 hpS hBw
    refine (along_any x hok none 0 0 w4).mono ?_
    rintro e w5 ⟨va, rfl, hal1, hal0, hB5⟩
    have hX5 := below_blk hB5 hX4
    have hR5 := below_blk hB5 hR4
    have hQ5 := below_blk hB5 hQ4
    have hpS5 := hpS4.below hB5
    have hBw5 := hB4.trans (hB5.mono hB4.size)
    clear hX4 hR4 hQ4 hB5 hpS4
    cases hal : alongOk x with
    | false =>
      have HE2 : Hid (psealErr session epoch n plain.length = 2) := Lib.hid (by rw [HE.out, hal]; rfl)
      have hva := hal0 hal
      subst hva
      clear hal0 hal1 hal
      have hq := fun wx => Lib.run_eql_slice_nil (P := Tryd.prog) wx 25 5 none 0 0 0 0 Tryd.underlying25
      go_wp2_with (first | (refine bd_eq rfl (ty := 27) rfl (v := .agg (pktC pkt0 (.slice none 0 0))) (by kernel_rfl) ?_) | (refine st_row rfl (ty := 27) (cs := pktC pkt0 (.slice none 0 0)) rfl rfl rfl (by exact hR5) (n := 38) (by kernel_rfl) (pktC_size _ _) (pktC_size _ _) (pktC_one _ _ rfl) ?_))
      refine end_row_tmp (n := 38) rfl rfl rfl (by exact setRow_heap w5 R _ (pktC pkt0 (.slice none 0 0)) _ _ hR5) Tryd.underlying27 rfl (by kernel_rfl) (pktC_size _ _) rfl ?_
      unfold PSealPost
      rw [if_neg (by rw [HE2.out]; decide), HE2.out]
      exact ⟨rfl, belowRow hBw5 hzw _⟩
    | true =>
      have HE2 : Hid (psealErr session epoch n plain.length = 0) := Lib.hid (by rw [HE.out, hal]; rfl)
      have hOa := hal1 hal
      clear hal0 hal1 hal
      obtain ⟨ga, ca, rfl, hca, hWa, hWb⟩ := Wr.of_own hOa (writeS_pos x [])
      obtain ⟨_, _, e0, _, _, hSa⟩ := hWb.sl
      cases e0
      have hAB : Bd 256 (writeS x []) := writeS_bd hok (by simp) (Bd.nil (by decide))
      have hAl : (writeS x []).length ≤ 65536 := by have := writeS_le hok (m := []) (by simp); simp at this; omega
      obtain ⟨A, hA⟩ : ∃ A, A = writeS x [] := ⟨_, rfl⟩
      rw [← hA] at hSa hAB hAl hca
      rw [← hA]
      have HA := Lib.hid hA
      clear hA hOa hWa hWb
      have hq := fun wx => Lib.run_eql_slice_nil (P := Tryd.prog) wx 25 5 (some ⟨ga, 0, none⟩) A.length ca 0 0 Tryd.underlying25
      go_wp2_with (first | (refine ld_row rfl (ty := 31) rfl rfl hQ5 Tryd.underlying31 rfl (by kernel_rfl) (by rw [size_ints, hs]) ?_) | (go_at_call 13; fail))
      refine (pkey_any secret hs hsB epoch way h2.1 h2.2 w5 (hR.below hBw5 hRlt.out)).mono ?_
      rintro e w6 ⟨rfl, hB6⟩
      have hX6 := below_blk hB6 hX5
      have hR6 := below_blk hB6 hR5
      have hpS6 := hpS5.below hB6
      have hSa6 := hSa.below hB6
      have hBw6 := hBw5.trans (hB6.mono hBw5.size)
      clear hX5 hR5 hQ5 hpS5 hSa hBw5 hB6 hq
      have hkl := pkeyS_len secret epoch way
      have hkB := pkeyS_bd secret epoch way
      have hnl := nonceS_len epoch n
      have hnB := nonceS_bd epoch n
      obtain ⟨K, hK⟩ : ∃ K, K = pkeyS secret epoch way := ⟨_, rfl⟩
      rw [← hK] at hkl hkB ⊢
      have HK := Lib.hid hK
      clear hK
      go_wp2_with (go_at_call 25; fail)
      refine (nonce_any epoch n w6).mono ?_
      rintro e w7 ⟨rfl, hB7⟩
      have hX7 := below_blk hB7 hX6
      have hR7 := below_blk hB7 hR6
      have hpS7 := hpS6.below hB7
      have hSa7 := hSa6.below hB7
      have hBw7 := hBw6.trans (hB7.mono hBw6.size)
      clear hX6 hR6 hpS6 hSa6 hBw6 hB7
      obtain ⟨N, hN⟩ : ∃ N, N = nonceS epoch n := ⟨_, rfl⟩
      rw [← hN] at hnl hnB ⊢
      have HN := Lib.hid hN
      clear hN
      go_wp2_with (go_at_call 24; fail)
      refine (seal_any K N plain A hkl hnl hkB hnB hAB hpl hAl pp (some ⟨ga, 0, none⟩) pc ca w7 (hC.below hBw7 hClt.out) hpS7 hSa7).mono ?_
      rintro e w8 ⟨v8, rfl, hO8, hB8⟩
      have hX8 := below_blk hB8 hX7
      have hR8 := below_blk hB8 hR7
      have hBw8 := hBw7.trans (hB8.mono hBw7.size)
      have hO8' := hO8.mono hBw7.size
      have hCl := sealS_len K N plain A
      obtain ⟨C, hC8⟩ : ∃ C, C = sealS K N plain A := ⟨_, rfl⟩
      rw [← hC8] at hCl hO8'
      have HC := Lib.hid hC8
      obtain ⟨gc, cc, rfl, hcc, hWc, _⟩ := Wr.of_own hO8' (by omega)
      have hneX := hO8'.ne hX8 (by decide)
      have hneR := hO8'.ne hR8 (by decide)
      have hPS : psealS secret way session epoch n plain = C := by unfold psealS; rw [HC.out, HK.out, HN.out, HA.out, HX.out]
      have HPS := Lib.hid hPS
      clear hX7 hR7 hpS7 hSa7 hBw7 hB8 hO8 hC8 hPS hO8'
      have i1 : (C.length : Int) ≤ (cc : Int) := by omega
      have hX9 : (w8.setCell ⟨X, 37, none⟩ (.slice (some ⟨gc, 0, none⟩) C.length C.length)).heap[X]? = some (.cells (pktC x (.slice (some ⟨gc, 0, none⟩) C.length C.length)) 27 (0, 0)) := by rw [heap_setCell_eq, hX8, putOf_some, pktC_set_body]
      have hk9 := (Kep.refl (fun b => b = X) w8).setCell (g := X) (o := 37) (.inl rfl) (.slice (some ⟨gc, 0, none⟩) C.length C.length)
      have hR9 := hk9.heap hR8 hRX
      have hk10 := Kep.setRow (S := fun b => b = X ∨ b = R) (g := R) (hk9.wid (S' := fun b => b = X ∨ b = R) (fun i _ h => .inl h)) (.inl (.inr rfl)) (pktC x (.slice (some ⟨gc, 0, none⟩) C.length C.length))
      have hwX : w.heap.size ≤ X := by have := hzR'.out; omega
      have HX9 := Lib.hid hX9
      have HR9 := Lib.hid hR9
      have hWf := hWc.kep hk10 (fun g _ hg e => by
        obtain ⟨c0, f0, hg⟩ := hg
        rcases e with rfl | rfl
        · rw [hX8] at hg; simp at hg
        · rw [hR8] at hg; simp at hg)
      have hBf := hk10.below hBw8 hBw8.size (fun k e => by rcases e with e | e <;> omega)
      have HWF := Lib.hid hWf
      have HBF := Lib.hid hBf
      clear hCl hR8 hX9 hR9 hneX hneR hWf hBf hk9 hk10 hWc hBw8
      go_wp2_with (first | (refine ld_row rfl (ty := 27) rfl rfl HX9.out Tryd.underlying27 rfl (by kernel_rfl) (pktC_size _ _) ?_) | (refine st_row rfl (ty := 27) (cs := pktC x (.slice (some ⟨gc, 0, none⟩) C.length C.length)) rfl rfl rfl (by exact HR9.out) (n := 38) (by kernel_rfl) (pktC_size _ _) (pktC_size _ _) (pktC_one _ _ rfl) ?_))
      refine end_row_tmp (n := 38) rfl rfl rfl (by exact setRow_heap _ R _ (pktC x (.slice (some ⟨gc, 0, none⟩) C.length C.length)) _ _ HR9.out) Tryd.underlying27 rfl (by kernel_rfl) (pktC_size _ _) rfl ?_
      unfold PSealPost
      rw [if_pos HE2.out, HPS.out, ← HX.out]
      exact ⟨⟨_, rfl, HWF.out⟩, HBF.out⟩
end Go.Proofs.YtjieiijbgbkikaaDoor
end
section
/- Package packet: Open. -/
namespace Go.Proofs.YtjieiijbgbkikaaDoor
open Go Go.RowKit
set_option maxRecDepth 100000
attribute [local go_sem] cell?_eq frozen?_eq heap_setCell_eq heap_setCell_ne

theorem okTo_of {x : Pkt} {bl bl' : Nat} (h : ∀ k, k < 6 → partOk x bl k = true → partOk x bl' k = true) (j : Nat) (hj : j ≤ 6) (h1 : okTo x bl j = true) : okTo x bl' j = true := by
  induction j with
  | zero => rfl
  | succ j ih =>
    unfold okTo at h1 ⊢
    rw [Bool.and_eq_true] at h1 ⊢
    exact ⟨ih (by omega) h1.1, h _ (by omega) h1.2⟩
theorem along_of_check {x : Pkt} {bl : Nat} (hk : x.kind = 3) (h : checkS x bl = 0) : alongOk x = true := by
  have h2 : checkS x 16 = 0 := by
    unfold checkS at h ⊢
    split at h
    · cases h
    · rename_i hne
      rw [if_neg hne]
      split at h
      · rename_i h6
        rw [if_pos]
        refine okTo_of (bl := bl) (fun k hk6 hp => ?_) 6 (Nat.le_refl _) h6
        unfold partOk at hp ⊢
        match k, hk6 with
        | 0, _ => exact hp
        | 1, _ => exact hp
        | 2, _ => exact hp
        | 3, _ => exact hp
        | 4, _ => exact hp
        | 5, _ =>
          have h5 : ((5 : Nat) : Int) ∈ hasS x.kind := by rw [hk]; decide
          rw [if_pos (by simpa using h5)]
          rfl
      · cases h
  unfold alongOk
  simp [hk, h2]
def popenKind (x : Pkt) (bl : Nat) : Int := if checkS x bl ≠ 0 then checkS x bl else if x.kind = 3 then 0 else 2
def popenOk (secret : List Int) (way : Int) (x : Pkt) (m : List Int) : Bool := tagOk (pkeyS secret x.epoch way) (nonceS x.epoch x.count) m (writeS x [])
def popenS (secret : List Int) (way : Int) (x : Pkt) (m : List Int) : List Int := xorS (pkeyS secret x.epoch way) (nonceS x.epoch x.count) 1 (m.take (m.length - 16))
def POpenPost (secret : List Int) (way : Int) (x : Pkt) (m : List Int) (w : World) (e : Ending) (w' : World) : Prop :=
  if popenKind x m.length = 0 then OpenPost w.heap.size (popenOk secret way x m) (popenS secret way x m) w e w'
  else e = .returned (.tuple #[.slice none 0 0, .int .i64 (popenKind x m.length)]) ∧ Below w.heap.size w w'
theorem checkS_3 {x : Pkt} {bl : Nat} (hk : x.kind = 3) (h : checkS x bl = 0) : 16 ≤ bl := by
  unfold checkS at h
  split at h
  · cases h
  split at h
  · rename_i h6
    have h5 := okTo_le h6 (show 5 < 6 by decide)
    unfold partOk at h5
    have h5m : ((5 : Nat) : Int) ∈ hasS x.kind := by rw [hk]; decide
    rw [if_pos (by simpa using h5m)] at h5
    simp only [mayS, Bool.and_eq_true, decide_eq_true_eq] at h5
    exact h5.1
  · cases h
theorem OpenPost.form {B : Nat} {ok : Bool} {l : List Int} {w w' : World} {e : Ending} (h : OpenPost B ok l w e w') : (∃ v c, e = .returned (.tuple #[v, .int .i64 c])) ∧ Below B w w' := by
  unfold OpenPost at h
  split at h
  · obtain ⟨v, rfl, _, hb⟩ := h
    exact ⟨⟨_, _, rfl⟩, hb⟩
  · obtain ⟨rfl, hb⟩ := h
    exact ⟨⟨_, _, rfl⟩, hb⟩
theorem OpenPost.rebase {B B' : Nat} {ok : Bool} {l : List Int} {w w1 w' : World} {e : Ending} (h : OpenPost B ok l w1 e w') (hb : Below B' w w1) (hB : B' ≤ B) : OpenPost B' ok l w e w' := by
  unfold OpenPost at h ⊢
  split at h
  · obtain ⟨v, rfl, ho, hb2⟩ := h
    rename_i hok
    rw [if_pos hok]
    exact ⟨v, rfl, ho.mono hB, hb.trans (hb2.mono hB)⟩
  · obtain ⟨rfl, hb2⟩ := h
    rename_i hok
    rw [if_neg hok]
    exact ⟨rfl, hb.trans (hb2.mono hB)⟩
set_option maxHeartbeats 8000000 in
theorem popen_any (secret : List Int) (hs : secret.length = 32) (hsB : Bd 256 secret) (way : Int) (x : Pkt) (hx : PktOk x) (m : List Int) (hmB : Bd 256 m) (hml : m.length ≤ 1073741824) (q : Option Addr) (cq : Nat) (hcq : m.length ≤ cq) (w : World)
    (hR : Rnd w) (hC : Cols w) (hqS : SL .u8 w q m) :
    Calls Tryd.prog 10 #[.agg (ints .u8 secret), .int .i64 way, .agg (pktC x (.slice q m.length cq))] w (POpenPost secret way x m w) := by
  have hRlt := Lib.hid hR.lt
  have hClt := Lib.hid hC.lt
  go_enter Tryd.func10, Tryd.ntmps10
  go_wp2_with (first | (refine bx_abs rfl (ty := 31) rfl rfl ?_; intro W0 S hS0 hB0 hzS hzS') | (refine bx_abs rfl (ty := 27) rfl rfl ?_; intro W X hX hBX hzX hzX') | (refine ld_row rfl (ty := 27) rfl rfl hX Tryd.underlying27 rfl (by kernel_rfl) (pktC_size _ _) ?_) | (go_at_call 11; fail))
  have hS1 := below_blk hBX hS0
  have hB1 := hB0.trans (hBX.mono hB0.size)
  have hq1 := hqS.below hB1
  clear hS0 hBX hB0 hqS
  refine (check_any x hx q m.length cq hml W).mono ?_
  rintro e w2 ⟨rfl, hB2⟩
  have hS2 := below_blk hB2 hS1
  have hX2 := below_blk hB2 hX
  have hq2 := hq1.below hB2
  have hBw2 := hB1.trans (hB2.mono hB1.size)
  clear hS1 hX hB2 hB1 hq1
  by_cases hc : checkS x m.length = 0
  · have hm1 := checkS_ok hc
    by_cases hk : x.kind = 3
    · have hP : popenKind x m.length = 0 := by unfold popenKind; rw [if_neg (by simpa using hc), if_pos hk]
      have HP := Lib.hid hP
      have hm16 := checkS_3 hk hc
      have hal := along_of_check hk hc
      have HAL := Lib.hid hal
      have b1 : (x.kind == 3) = true := beq_iff_eq.2 hk
      have b2 : (x.kind != 3) = false := by simp [hk]
      rw [hc]
      clear hc hk hP hal
      go_wp2
      have hldS : ∀ wx : World, wx.heap[S]? = some (.cells (ints .u8 secret) 31 (0, 0)) → (Instr.loadAt 31 (.pointer (some ⟨S, 0, none⟩))).run Tryd.prog wx = .ok (.agg (ints .u8 secret)) wx := fun wx hq => run_loadAt_row (P := Tryd.prog) (ty := 31) hq Tryd.underlying31 rfl (by kernel_rfl) (by rw [size_ints, hs])
      have hldX : ∀ wx : World, wx.heap[X]? = some (.cells (pktC x (.slice q m.length cq)) 27 (0, 0)) → (Instr.loadAt 27 (.pointer (some ⟨X, 0, none⟩))).run Tryd.prog wx = .ok (.agg (pktC x (.slice q m.length cq))) wx := fun wx hq => run_loadAt_row (P := Tryd.prog) (ty := 27) hq Tryd.underlying27 rfl (by kernel_rfl) (pktC_size _ _)
      have HLS := Lib.hid hldS
      have HLX := Lib.hid hldX
      clear hldS hldX
      have hAB : Bd 256 (writeS x []) := writeS_bd hx (by simp) (Bd.nil (by decide))
      have hAl : (writeS x []).length ≤ 65536 := by have := writeS_le hx (m := []) (by simp); simp at this; omega
      refine wp_region_E [4] (S1 (fun w' => w'.heap[S]? = some (.cells (ints .u8 secret) 31 (0, 0)) ∧ w'.heap[X]? = some (.cells (pktC x (.slice q m.length cq)) 27 (0, 0))) (fun _ => True)) (by kernel_rfl) ?_
      have hI0 : S1 (fun w' => w'.heap[S]? = some (.cells (ints .u8 secret) 31 (0, 0)) ∧ w'.heap[X]? = some (.cells (pktC x (.slice q m.length cq)) 27 (0, 0))) (fun _ => True) [false] w2.drew := ⟨⟨hS2, hX2⟩, fun _ => trivial⟩
      have hBd2 : Below w.heap.size w w2.drew := hBw2.drew
      try simp only [Act.put, List.setIfInBounds_toArray, List.set_cons_zero, List.set_cons_succ]
      refine takeA (i := 0) (v := ?_) rfl (by kernel_rfl) (fun _ _ _ h => h) rfl (by exact hI0) (fun wx hx => ?_) ?_
      rotate_left
      · obtain ⟨hx1, hx2⟩ := hx; refine (exec_load (p := .pointer (some ⟨S, 0, none⟩)) rfl rfl (HLS.out _ hx1)).trans ?_; with_reducible rfl
      try simp only [Act.put, List.setIfInBounds_toArray, List.set_cons_zero, List.set_cons_succ]
      refine takeA (i := 1) (v := ?_) rfl (by kernel_rfl) (fun _ _ _ h => h) rfl (by exact hI0) (fun wx hx => ?_) ?_
      rotate_left
      · obtain ⟨hx1, hx2⟩ := hx; go_simp; try with_reducible rfl
      try simp only [Act.put, List.setIfInBounds_toArray, List.set_cons_zero, List.set_cons_succ]
      refine takeA (i := 2) (v := ?_) rfl (by kernel_rfl) (fun _ _ _ h => h) rfl (by exact hI0) (fun wx hx => ?_) ?_
      rotate_left
      · obtain ⟨hx1, hx2⟩ := hx; go_simp; try with_reducible rfl
      try simp only [Act.put, List.setIfInBounds_toArray, List.set_cons_zero, List.set_cons_succ]
      refine takeA (i := 3) (v := ?_) rfl (by kernel_rfl) (fun _ _ _ h => h) rfl (by exact hI0) (fun wx hx => ?_) ?_
      rotate_left
      · obtain ⟨hx1, hx2⟩ := hx; go_simp; try with_reducible rfl
      try simp only [Act.put, List.setIfInBounds_toArray, List.set_cons_zero, List.set_cons_succ]
      refine takeA (i := 5) (v := ?_) rfl (by kernel_rfl) (fun _ _ _ h => h) rfl (by exact hI0) (fun wx hx => ?_) ?_
      rotate_left
      · obtain ⟨hx1, hx2⟩ := hx; go_simp; try with_reducible rfl
      try simp only [Act.put, List.setIfInBounds_toArray, List.set_cons_zero, List.set_cons_succ]
      refine takeA (i := 6) (v := ?_) rfl (by kernel_rfl) (fun _ _ _ h => h) rfl (by exact hI0) (fun wx hx => ?_) ?_
      rotate_left
      · obtain ⟨hx1, hx2⟩ := hx; go_simp; try with_reducible rfl
      try simp only [Act.put, List.setIfInBounds_toArray, List.set_cons_zero, List.set_cons_succ]
      refine takeA (i := 7) (v := ?_) rfl (by kernel_rfl) (fun _ _ _ h => h) rfl (by exact hI0) (fun wx hx => ?_) ?_
      rotate_left
      · obtain ⟨hx1, hx2⟩ := hx; go_simp; try with_reducible rfl
      try simp only [Act.put, List.setIfInBounds_toArray, List.set_cons_zero, List.set_cons_succ]
      refine takeA (i := 8) (v := ?_) rfl (by kernel_rfl) (fun _ _ _ h => h) rfl (by exact hI0) (fun wx hx => ?_) ?_
      rotate_left
      · obtain ⟨hx1, hx2⟩ := hx; go_simp; try with_reducible rfl
      try simp only [Act.put, List.setIfInBounds_toArray, List.set_cons_zero, List.set_cons_succ]
      refine takeA (i := 10) (v := ?_) rfl (by kernel_rfl) (fun _ _ _ h => h) rfl (by exact hI0) (fun wx hx => ?_) ?_
      rotate_left
      · obtain ⟨hx1, hx2⟩ := hx; go_simp; try with_reducible rfl
      try simp only [Act.put, List.setIfInBounds_toArray, List.set_cons_zero, List.set_cons_succ]
      refine takeA (i := 11) (v := ?_) rfl (by kernel_rfl) (fun _ _ _ h => h) rfl (by exact hI0) (fun wx hx => ?_) ?_
      rotate_left
      · obtain ⟨hx1, hx2⟩ := hx; go_simp; try with_reducible rfl
      try simp only [Act.put, List.setIfInBounds_toArray, List.set_cons_zero, List.set_cons_succ]
      refine takeA (i := 12) (v := ?_) rfl (by kernel_rfl) (fun _ _ _ h => h) rfl (by exact hI0) (fun wx hx => ?_) ?_
      rotate_left
      · obtain ⟨hx1, hx2⟩ := hx; refine (exec_load (p := .pointer (some ⟨X, 0, none⟩)) rfl rfl (HLX.out _ hx2)).trans ?_; with_reducible rfl
      try simp only [Act.put, List.setIfInBounds_toArray, List.set_cons_zero, List.set_cons_succ]
      refine runOne (i := 4) (by kernel_rfl) rfl rfl ?_
      go_simp
      refine (pkey_any secret hs hsB x.epoch way hx.epoch.1 hx.epoch.2 w2.drew (hR.below hBd2 hRlt.out)).mono ?_
      rintro e w3 ⟨rfl, hB3⟩
      have hBw3 := hBd2.trans (hB3.mono hBd2.size)
      have hS3 := below_blk hB3 (show w2.drew.heap[S]? = _ from hS2)
      have hX3 := below_blk hB3 (show w2.drew.heap[X]? = _ from hX2)
      have hq3 : SL .u8 w3 q m := SL.below (w := w2.drew) (by exact hq2) hB3
      have hI1 : S1 (fun w' => w'.heap[S]? = some (.cells (ints .u8 secret) 31 (0, 0)) ∧ w'.heap[X]? = some (.cells (pktC x (.slice q m.length cq)) 27 (0, 0))) (fun _ => True) [true] w3 := ⟨⟨hS3, hX3⟩, fun _ => trivial⟩
      refine ⟨by exact hI1, ?_⟩
      try simp only [Act.put, List.setIfInBounds_toArray, List.set_cons_zero, List.set_cons_succ]
      refine runOne (i := 9) (by kernel_rfl) rfl rfl ?_
      go_simp
      refine (nonce_any x.epoch x.count w3).mono ?_
      rintro e w4 ⟨rfl, hB4⟩
      have hBw4 := hBw3.trans (hB4.mono hBw3.size)
      have hS4 := below_blk hB4 hS3
      have hX4 := below_blk hB4 hX3
      have hq4 := hq3.below hB4
      have hI2 : S1 (fun w' => w'.heap[S]? = some (.cells (ints .u8 secret) 31 (0, 0)) ∧ w'.heap[X]? = some (.cells (pktC x (.slice q m.length cq)) 27 (0, 0))) (fun _ => True) [true] w4 := ⟨⟨hS4, hX4⟩, fun _ => trivial⟩
      refine ⟨by exact hI2, ?_⟩
      try simp only [Act.put, List.setIfInBounds_toArray, List.set_cons_zero, List.set_cons_succ]
      refine runOne (i := 13) (by kernel_rfl) rfl rfl ?_
      go_simp
      refine (along_any x hx q m.length cq w4).mono ?_
      rintro e w5 ⟨v5, rfl, hal1, _, hB5⟩
      have hO5 := hal1 HAL.out
      have hBw5 := hBw4.trans (hB5.mono hBw4.size)
      have hS5 := below_blk hB5 hS4
      have hX5 := below_blk hB5 hX4
      have hq5 := hq4.below hB5
      obtain ⟨p5, c5, rfl, hSa5, _⟩ := hO5.form
      have hI3 : S1 (fun w' => w'.heap[S]? = some (.cells (ints .u8 secret) 31 (0, 0)) ∧ w'.heap[X]? = some (.cells (pktC x (.slice q m.length cq)) 27 (0, 0))) (fun _ => True) [true] w5 := ⟨⟨hS5, hX5⟩, fun _ => trivial⟩
      refine ⟨by exact hI3, ?_⟩
      try simp only [Act.put, List.setIfInBounds_toArray, List.set_cons_zero, List.set_cons_succ]
      refine runOne (i := 14) (by kernel_rfl) rfl rfl ?_
      go_simp
      refine (open_any (pkeyS secret x.epoch way) (nonceS x.epoch x.count) m (writeS x []) (pkeyS_len ..) (nonceS_len ..) (pkeyS_bd _ _ _) (nonceS_bd _ _) hAB hmB hm16 (by omega) hAl q p5 cq c5 hcq w5 (hC.below hBw5 hClt.out) hq5 hSa5).mono ?_
      rintro e w6 hOP
      obtain ⟨⟨v6, c6, rfl⟩, hB6⟩ := hOP.form
      have hOPf := hOP.rebase hBw5 hBw5.size
      have hS6 := below_blk hB6 hS5
      have hX6 := below_blk hB6 hX5
      have hI4 : S1 (fun w' => w'.heap[S]? = some (.cells (ints .u8 secret) 31 (0, 0)) ∧ w'.heap[X]? = some (.cells (pktC x (.slice q m.length cq)) 27 (0, 0))) (fun _ => True) [true] w6 := ⟨⟨hS6, hX6⟩, fun _ => trivial⟩
      refine ⟨by exact hI4, ?_⟩
      try simp only [Act.put, List.setIfInBounds_toArray, List.set_cons_zero, List.set_cons_succ]
      refine takeA (i := 15) (v := ?_) rfl (by kernel_rfl) (fun _ _ _ h => h) rfl (by exact hI4) (fun wx hx => ?_) ?_
      rotate_left
      · obtain ⟨hx1, hx2⟩ := hx; go_simp; try with_reducible rfl
      try simp only [Act.put, List.setIfInBounds_toArray, List.set_cons_zero, List.set_cons_succ]
      refine takeA (i := 16) (v := ?_) rfl (by kernel_rfl) (fun _ _ _ h => h) rfl (by exact hI4) (fun wx hx => ?_) ?_
      rotate_left
      · obtain ⟨hx1, hx2⟩ := hx; go_simp; try with_reducible rfl
      try simp only [Act.put, List.setIfInBounds_toArray, List.set_cons_zero, List.set_cons_succ]
      refine takeA (i := 17) (v := ?_) rfl (by kernel_rfl) (fun _ _ _ h => h) rfl (by exact hI4) (fun wx hx => ?_) ?_
      rotate_left
      · obtain ⟨hx1, hx2⟩ := hx; go_simp; try with_reducible rfl
      try simp only [Act.put, List.setIfInBounds_toArray, List.set_cons_zero, List.set_cons_succ]
      refine takeA (i := 18) (v := ?_) rfl (by kernel_rfl) (fun _ _ _ h => h) rfl (by exact hI4) (fun wx hx => ?_) ?_
      rotate_left
      · obtain ⟨hx1, hx2⟩ := hx; go_simp; try with_reducible rfl
      try simp only [Act.put, List.setIfInBounds_toArray, List.set_cons_zero, List.set_cons_succ]
      refine wpAnyE_done (by kernel_rfl) ?_ _
      go_wp2
      refine bodyPost_ret (v := .tuple #[v6, .int .i64 c6]) (by simp [results, Tryd.results10, go_sem]) rfl ?_
      unfold POpenPost
      rw [if_pos HP.out]
      exact hOPf
    · have hP : popenKind x m.length = 2 := by unfold popenKind; rw [if_neg (by simpa using hc), if_neg hk]
      have HP := Lib.hid hP
      have b1 : (x.kind == 3) = false := beq_eq_false_iff_ne.2 hk
      have b2 : (x.kind != 3) = true := bne_iff_ne.2 hk
      rw [hc]
      clear hc hk hP
      go_wp2
      refine bodyPost_ret (v := .tuple #[.slice none 0 0, .int .i64 2]) (by simp [results, Tryd.results10, go_sem]) rfl ?_
      unfold POpenPost
      rw [if_neg (by rw [HP.out]; decide), HP.out]
      exact ⟨rfl, hBw2⟩
  · have hP : popenKind x m.length = checkS x m.length := by unfold popenKind; rw [if_pos hc]
    have HP := Lib.hid hP
    obtain ⟨c, hcc⟩ : ∃ c, c = checkS x m.length := ⟨_, rfl⟩
    rw [← hcc] at hc HP ⊢
    have b1 : (c == 0) = false := beq_eq_false_iff_ne.2 hc
    have b2 : (c != 0) = true := bne_iff_ne.2 hc
    have HC0 := Lib.hid hc
    clear hc hP hcc
    go_wp2
    refine bodyPost_ret (v := .tuple #[.slice none 0 0, .int .i64 c]) (by simp [results, Tryd.results10, go_sem]) rfl ?_
    unfold POpenPost
    rw [if_neg (by rw [HP.out]; exact HC0.out), HP.out]
    exact ⟨rfl, hBw2⟩
end Go.Proofs.YtjieiijbgbkikaaDoor
end
section
/- The laws' kit: Pick, Own, Packet. -/
namespace Go.Proofs.YtjieiijbgbkikaaDoor
open Go Go.RowKit
set_option maxRecDepth 100000
attribute [local go_sem] cell?_eq frozen?_eq heap_setCell_eq heap_setCell_ne
set_option maxHeartbeats 4000000 in
theorem pick2_any (n : Int) (hn : -9223372036854775808 ≤ n ∧ n < 9223372036854775808) (w : World) :
    Calls Tryd.prog 12 #[.int .i64 n, .int .i64 2] w fun e w' => e = .returned (.int .i64 (n % 2)) ∧ w = w' := by
  have h2 : -2 < n.tmod 2 ∧ n.tmod 2 < 2 := ⟨Int.lt_tmod_of_pos n (by decide), Int.tmod_lt_of_pos n (by decide)⟩
  have h1 : n.tmod 2 = n % 2 ∨ (n.tmod 2 < 0 ∧ n.tmod 2 + 2 = n % 2) := by
    have h := Int.tmod_def n 2
    generalize n.tmod 2 = r at *
    generalize n.tdiv 2 = q at *
    omega
  rcases h1 with h1 | ⟨h1, h3⟩
  · have h4 : 0 ≤ n.tmod 2 := by omega
    have H1 := Lib.hid h1
    clear h1
    go_enter Tryd.func12, Tryd.ntmps12
    go_wp2
    go_ret
    exact ⟨by first | rfl | (rw [H1.out]; rfl), rfl⟩
  · have H3 := Lib.hid h3
    clear h3
    go_enter Tryd.func12, Tryd.ntmps12
    go_wp2
    go_ret
    exact ⟨by first | rfl | (rw [H3.out]; rfl), rfl⟩
theorem kown_any (l : List Int) (hl : l.length ≤ 1073741824) (p : Option Addr) (cap : Nat) (w : World) (hS : SL .u8 w p l) :
    Calls Tryd.prog 16 #[.slice p l.length cap] w fun e w' => ∃ v, e = .returned v ∧ Own w.heap.size w' 5 .u8 v l ∧ Below w.heap.size w w' := by
  go_enter Tryd.func16, Tryd.ntmps16
  go_wp2_with (refine ap_ints rfl rfl Tryd.underlying25 (E := 5) (k := .u8) (by' := 1) (by kernel_rfl) (by decide) (base := w.heap.size) (v := .slice (some ⟨w.heap.size, 0, none⟩) 0 0) (l := []) (m := l) rfl (by exact Own.fresh w _ _ (Nat.le_refl _)) rfl rfl (by exact hS.alloc _) (by simp <;> omega) (by simp) ?_; intro v2 w2 hO2 hg2 _)
  go_ret
  exact ⟨_, rfl, by simpa using hO2, Own.grown (Own.fresh w 5 .u8 (Nat.le_refl _)) ((Below.refl _ _).alloc (Nat.le_refl _) _) (by simp) hg2⟩
set_option maxHeartbeats 8000000 in
/-- Two packets that are the same. -/
theorem kpacket_same (x : Pkt) (hx : PktOk x) (m : List Int) (p q : Option Addr) (cp cq : Nat) (w : World) (hp : SL .u8 w p m) (hq : SL .u8 w q m) :
    Calls Tryd.prog 18 #[.agg (pktC x (.slice p m.length cp)), .agg (pktC x (.slice q m.length cq))] w fun e w' => e = .returned (.bool true) ∧ Below w.heap.size w w' := by
  have hrl := hx.random
  have hml := hx.mark
  have he : ∀ (l : List Int) (hl : l.length = 16) (wx : World), (Op.equalIn 10000 24 (.agg (ints .u8 l)) (.agg (ints .u8 l))).run Tryd.prog wx = .ok true wx := fun l hl wx => by
    rw [run_equalIn_ints wx 9998 Tryd.underlying24 Tryd.underlying5 (by kernel_rfl) l l hl hl, beq_self_eq_true]
  have her := he x.random hrl
  have hem := he x.mark hml
  clear he
  go_enter Tryd.func18, Tryd.ntmps18
  go_wp2_with (first | (have hh := hA; clear hh; refine bx_abs rfl (ty := 27) rfl rfl ?_; intro W B hB hB2 hzB hzB'; have hA2 := below_blk hB2 hA; have hp2 := (hp.below hB1).below hB2; have hq2 := (hq.below hB1).below hB2; have hlA5 := Lib.hid ((run_loadAt_seg (P := Tryd.prog) (ty := 24) (off := 5) (sz := 16) hA2 Tryd.underlying24 (by kernel_rfl) (by rw [pktC_size]; decide)).trans (by rw [pktC_ext_random _ _ hrl])); have hlB5 := Lib.hid ((run_loadAt_seg (P := Tryd.prog) (ty := 24) (off := 5) (sz := 16) hB Tryd.underlying24 (by kernel_rfl) (by rw [pktC_size]; decide)).trans (by rw [pktC_ext_random _ _ hrl])); have hlA21 := Lib.hid ((run_loadAt_seg (P := Tryd.prog) (ty := 24) (off := 21) (sz := 16) hA2 Tryd.underlying24 (by kernel_rfl) (by rw [pktC_size]; decide)).trans (by rw [pktC_ext_mark _ _ hml])); have hlB21 := Lib.hid ((run_loadAt_seg (P := Tryd.prog) (ty := 24) (off := 21) (sz := 16) hB Tryd.underlying24 (by kernel_rfl) (by rw [pktC_size]; decide)).trans (by rw [pktC_ext_mark _ _ hml])); have cvp := fun c => run_str (P := Tryd.prog) (dst := 9) Tryd.underlying25 Tryd.underlying5 Tryd.underlying9 hp2 m.length c rfl; have cvq := fun c => run_str (P := Tryd.prog) (dst := 9) Tryd.underlying25 Tryd.underlying5 Tryd.underlying9 hq2 m.length c rfl; clear hA) | (refine bx_abs rfl (ty := 27) rfl rfl ?_; intro W0 A hA hB1 hzA hzA') | (refine ld_g rfl (ty := 24) rfl (p := .pointer (some ⟨A, 5, none⟩)) rfl hlA5.out ?_) | (refine ld_g rfl (ty := 24) rfl (p := .pointer (some ⟨B, 5, none⟩)) rfl hlB5.out ?_) | (refine ld_g rfl (ty := 24) rfl (p := .pointer (some ⟨A, 21, none⟩)) rfl hlA21.out ?_) | (refine ld_g rfl (ty := 24) rfl (p := .pointer (some ⟨B, 21, none⟩)) rfl hlB21.out ?_))
  go_ret
  exact ⟨rfl, hB1.trans (hB2.mono hB1.size)⟩
end Go.Proofs.YtjieiijbgbkikaaDoor
end
section
/- Plain laws on the crypto: no program is used here. -/
namespace Go.Proofs.YtjieiijbgbkikaaDoor
open Go Go.RowKit
set_option maxRecDepth 100000
theorem u8_xor_zero {a b : Int} (a0 : 0 ≤ a) (a1 : a < 256) (b0 : 0 ≤ b) (b1 : b < 256) : bits .xor .u8 a b = 0 ↔ a = b := by
  rw [u8_xor a b a0 a1 b0 b1]
  constructor
  · intro h
    have h1 : a.toNat ^^^ b.toNat = 0 := by exact_mod_cast h
    have h2 : a.toNat = b.toNat := Nat.eq_of_testBit_eq fun i => by
      have h3 := congrArg (fun n => Nat.testBit n i) h1
      simp only [Nat.testBit_xor, Nat.zero_testBit] at h3
      revert h3
      cases Nat.testBit a.toNat i <;> cases Nat.testBit b.toNat i <;> simp
    omega
  · rintro rfl; simp
theorem u8_or_zero {a b : Int} (a0 : 0 ≤ a) (a1 : a < 256) (b0 : 0 ≤ b) (b1 : b < 256) : bits .or .u8 a b = 0 ↔ a = 0 ∧ b = 0 := by
  rw [u8_or a b a0 a1 b0 b1]
  constructor
  · intro h
    have h1 : a.toNat ||| b.toNat = 0 := by exact_mod_cast h
    have h2 := Nat.or_eq_zero_iff.1 h1
    omega
  · rintro ⟨rfl, rfl⟩; rfl
theorem u8_xor_twice {a k : Int} (a0 : 0 ≤ a) (a1 : a < 256) (b0 : 0 ≤ k) (b1 : k < 256) : bits .xor .u8 (bits .xor .u8 a k) k = a := by
  have h1 := bits_u8_bd .xor a k
  rw [u8_xor _ k h1.1 h1.2 b0 b1, u8_xor a k a0 a1 b0 b1, Int.toNat_natCast, Nat.xor_assoc, Nat.xor_self, Nat.xor_zero]
  omega
theorem diffTo_bd (a b : List Int) (k : Nat) : 0 ≤ diffTo a b k ∧ diffTo a b k < 256 := by
  cases k with
  | zero => exact ⟨by simp [diffTo], by simp [diffTo]⟩
  | succ k => exact bits_u8_bd ..
theorem diffTo_zero {a b : List Int} (ha : Bd 256 a) (hb : Bd 256 b) (k : Nat) : diffTo a b k = 0 ↔ ∀ i, i < k → nth a i = nth b i := by
  induction k with
  | zero => exact ⟨fun _ i hi => absurd hi (by omega), fun _ => rfl⟩
  | succ k ih =>
    have h1 := diffTo_bd a b k
    have h2 := bits_u8_bd .xor (nth a k) (nth b k)
    rw [diffTo, u8_or_zero h1.1 h1.2 h2.1 h2.2, ih, u8_xor_zero (ha k).1 (ha k).2 (hb k).1 (hb k).2]
    constructor
    · rintro ⟨h3, h4⟩ i hi
      by_cases e : i = k
      · subst e; exact h4
      · exact h3 i (by omega)
    · exact fun h => ⟨fun i hi => h i (by omega), h k (by omega)⟩
theorem equalS_iff {a b : List Int} (ha : Bd 256 a) (hb : Bd 256 b) (la : a.length = 16) (lb : b.length = 16) : equalS a b = true ↔ a = b := by
  unfold equalS
  rw [beq_iff_eq, diffTo_zero ha hb]
  exact ⟨fun h => ext_nth (by omega) fun i hi => h i (by omega), fun h i _ => by rw [h]⟩
theorem xorTo_nth (key nonce : List Int) (c : Int) (l : List Int) (m : Nat) (hm : m ≤ l.length) (i : Nat) (hi : i < m) :
    nth (xorTo key nonce c l m) i = bits .xor .u8 (nth l i) (nth (blockS key (c + (i / 64 : Nat)) nonce) (i % 64)) := by
  induction m with
  | zero => omega
  | succ m ih =>
    rw [xorTo_succ]
    by_cases e : i = m
    · subst e
      rw [nth_set_eq _ (by rw [xorTo_len]; omega)]
    · rw [nth_set_ne _ (fun h => e h.symm)]
      exact ih (by omega) (by omega)
theorem xorS_nth (key nonce : List Int) (c : Int) (l : List Int) (i : Nat) (hi : i < l.length) :
    nth (xorS key nonce c l) i = bits .xor .u8 (nth l i) (nth (blockS key (c + (i / 64 : Nat)) nonce) (i % 64)) := xorTo_nth _ _ _ _ _ (Nat.le_refl _) _ hi
/-- What is enciphered twice is plain. -/
theorem xorS_twice (key nonce : List Int) (c : Int) {l : List Int} (hl : Bd 256 l) : xorS key nonce c (xorS key nonce c l) = l := by
  refine ext_nth (by rw [xorS_len, xorS_len]) fun i hi => ?_
  rw [xorS_len, xorS_len] at hi
  have hb := blockS_bd key (c + (i / 64 : Nat)) nonce (i % 64)
  rw [xorS_nth _ _ _ _ _ (by rw [xorS_len]; exact hi), xorS_nth _ _ _ _ _ hi]
  exact u8_xor_twice (hl i).1 (hl i).2 hb.1 hb.2
theorem sealS_take (key nonce plain along : List Int) : (sealS key nonce plain along).take ((sealS key nonce plain along).length - 16) = xorS key nonce 1 plain := by
  rw [sealS_len, Nat.add_sub_cancel, sealS, List.take_append_of_le_length (by rw [xorS_len]; exact Nat.le_refl _)]
  exact List.take_of_length_le (by rw [xorS_len]; exact Nat.le_refl _)
theorem sealS_drop (key nonce plain along : List Int) : (sealS key nonce plain along).drop ((sealS key nonce plain along).length - 16) = aeadT key nonce (xorS key nonce 1 plain) along := by
  rw [sealS_len, Nat.add_sub_cancel, sealS]
  have h := List.drop_left (l₁ := xorS key nonce 1 plain) (l₂ := aeadT key nonce (xorS key nonce 1 plain) along)
  rw [xorS_len] at h
  exact h
theorem outT_bd (x y : Int) (k : Nat) : Bd 256 (outT x y k) := by
  induction k with
  | zero => rw [outT_zero]; exact Bd.zerosL (by decide) _
  | succ k ih => rw [outT_succ]; exact (ih.set _ _ (by omega) (by omega)).set _ _ (by omega) (by omega)
theorem aeadT_bd (key nonce cipher along : List Int) : Bd 256 (aeadT key nonce cipher along) := by unfold aeadT tagS; exact outT_bd _ _ _
theorem sealS_bd (key nonce plain along : List Int) : Bd 256 (sealS key nonce plain along) := by unfold sealS; exact (xorS_bd _ _ _ _).append (by decide) (aeadT_bd _ _ _ _)
theorem tag_seal (key nonce plain along : List Int) : tagOk key nonce (sealS key nonce plain along) along = true := by
  unfold tagOk
  rw [sealS_take, sealS_drop]
  exact (equalS_iff (aeadT_bd _ _ _ _) (aeadT_bd _ _ _ _) (aeadT_len ..) (aeadT_len ..)).2 rfl
theorem open_seal (key nonce along : List Int) {plain : List Int} (hp : Bd 256 plain) : xorS key nonce 1 ((sealS key nonce plain along).take ((sealS key nonce plain along).length - 16)) = plain := by
  rw [sealS_take, xorS_twice _ _ _ hp]
end Go.Proofs.YtjieiijbgbkikaaDoor
end
section
/- Plain laws on numbers as bytes: no program is used here. -/
namespace Go.Proofs.YtjieiijbgbkikaaDoor
open Go Go.RowKit
set_option maxRecDepth 100000
theorem numN_hi (x : Nat) : x < 256 ^ numN x := by
  induction x using Nat.strongRecOn with
  | _ x ih =>
    by_cases h : x = 0
    · subst h; rw [numN_zero]; decide
    · rw [numN_pos (by omega), Nat.pow_succ]
      have := ih (x / 256) (by omega)
      omega
theorem numN_eq {x n : Nat} (h : x < 256 ^ n) (h1 : 0 < n → 256 ^ (n - 1) ≤ x) : numN x = n := by
  have h2 := numN_le n x h
  have h3 := numN_hi x
  by_cases e : numN x = n
  · exact e
  · have h4 : numN x ≤ n - 1 := by omega
    have h5 : 256 ^ numN x ≤ 256 ^ (n - 1) := Nat.pow_le_pow_right (by decide) h4
    have h6 := h1 (by omega)
    omega
theorem numN_lo {x : Nat} (h : 0 < numN x) : 256 ^ (numN x - 1) ≤ x := by
  by_cases h1 : 256 ^ (numN x - 1) ≤ x
  · exact h1
  · have := numN_le (numN x - 1) x (by omega)
    omega
theorem beVal_from (b : List Int) : ∀ i : Int, b.foldl (fun x c => x * 256 + c) i = i * 256 ^ b.length + b.foldl (fun x c => x * 256 + c) 0 := by
  induction b with
  | nil => intro i; simp
  | cons c b ih =>
    intro i
    rw [List.foldl_cons, ih, List.length_cons, List.foldl_cons, ih (0 * 256 + c), Int.pow_succ]
    have h : i * (256 ^ b.length * 256) = i * 256 * 256 ^ b.length := by rw [Int.mul_comm (256 ^ b.length) 256, ← Int.mul_assoc]
    rw [h, Int.add_mul, Int.zero_mul, Int.zero_add, Int.add_assoc]
theorem beVal_append (a b : List Int) : beVal (a ++ b) = beVal a * 256 ^ b.length + beVal b := by
  unfold beVal
  rw [List.foldl_append]
  exact beVal_from b _
theorem beVal_bd' {l : List Int} (h : Bd 256 l) : 0 ≤ beVal l ∧ beVal l < 256 ^ l.length := by
  have := beVal_bd h l.length
  rw [List.take_length] at this
  exact this
theorem pow_8 (d : Nat) : (2 : Int) ^ (8 * d) = 256 ^ d := by
  induction d with
  | zero => rfl
  | succ d ih => rw [Nat.mul_succ, Int.pow_add, ih, Int.pow_succ]; rfl
theorem pow_pos (d : Nat) : (0 : Int) < 256 ^ d := Int.pow_pos (by decide)
/-- The bytes' value. -/
theorem beVal_beTo (x : Int) (n d : Nat) (hd : d ≤ n) : beVal (beTo x n d) = x / 256 ^ (n - d) % 256 ^ d := by
  induction d with
  | zero => rw [beTo_zero, beVal_nil]; simp [Int.emod_one]
  | succ d ih =>
    rw [beTo_succ, beVal_snoc, ih (by omega), pow_8, show n - 1 - d = n - (d + 1) by omega]
    have h1 : x / 256 ^ (n - d) = x / 256 ^ (n - (d + 1)) / 256 := by
      rw [show n - d = (n - (d + 1)) + 1 by omega, Int.pow_succ, ← Int.ediv_ediv_of_nonneg (Int.le_of_lt (pow_pos _))]
    rw [h1]
    generalize x / 256 ^ (n - (d + 1)) = y
    have hp := pow_pos d
    rw [Int.pow_succ]
    have h2 : y % (256 ^ d * 256) = (y / 256 % 256 ^ d) * 256 + y % 256 := by
      have e1 : y = (y / 256 % 256 ^ d * 256 + y % 256) + (256 ^ d * 256) * (y / 256 / 256 ^ d) := by
        have a1 := Int.emod_add_mul_ediv (y / 256) (256 ^ d)
        have a2 := Int.emod_add_mul_ediv y 256
        have a3 : (256 ^ d * 256) * (y / 256 / 256 ^ d) = 256 * (256 ^ d * (y / 256 / 256 ^ d)) := by rw [Int.mul_comm (256 ^ d) 256, Int.mul_assoc]
        rw [a3]
        omega
      have b1 := Int.emod_nonneg (y / 256) (Int.ne_of_gt hp)
      have b2 := Int.emod_lt_of_pos (y / 256) hp
      have b3 : y / 256 % 256 ^ d * 256 + y % 256 < 256 ^ d * 256 := by omega
      conv => lhs; rw [e1]
      rw [Int.add_mul_emod_self_left, Int.emod_eq_of_lt (by omega) b3]
    exact h2.symm
theorem beTo_beVal {s : List Int} (hs : Bd 256 s) (d : Nat) (hd : d ≤ s.length) : beTo (beVal s) s.length d = s.take d := by
  induction d with
  | zero => rw [beTo_zero, List.take_zero]
  | succ d ih =>
    have hd' : d < s.length := by omega
    rw [beTo_succ, ih (by omega), take_snoc_nth' hd', pow_8]
    congr 2
    have h1 : beVal s = beVal (s.take (d + 1)) * 256 ^ (s.length - 1 - d) + beVal (s.drop (d + 1)) := by
      have := beVal_append (s.take (d + 1)) (s.drop (d + 1))
      rw [List.take_append_drop, List.length_drop] at this
      rw [this, show s.length - 1 - d = s.length - (d + 1) by omega]
    have h2 := beVal_bd' (hs.drop (by decide) (d + 1))
    rw [List.length_drop] at h2
    have h3 : beVal s / 256 ^ (s.length - 1 - d) = beVal (s.take (d + 1)) := by
      rw [h1, show s.length - 1 - d = s.length - (d + 1) by omega, Int.add_comm, Int.add_mul_ediv_right _ _ (Int.ne_of_gt (pow_pos _)), Int.ediv_eq_zero_of_lt h2.1 h2.2, Int.zero_add]
    rw [h3, take_snoc_nth' hd', beVal_snoc]
    have := hs d
    omega
theorem beVal_num {x : Int} (h : u64lim x) : beVal (beTo x (numN x.toNat) (numN x.toNat)) = x := by
  rw [beVal_beTo _ _ _ (Nat.le_refl _), Nat.sub_self, Int.pow_zero, Int.ediv_one]
  have h1 := numN_hi x.toNat
  have h2 : x < 256 ^ numN x.toNat := by
    have h3 : ((x.toNat : Nat) : Int) < ((256 ^ numN x.toNat : Nat) : Int) := by exact_mod_cast h1
    rw [Int.toNat_of_nonneg h.1] at h3
    exact_mod_cast h3
  exact Int.emod_eq_of_lt h.1 h2
theorem beTo_head {x : Int} (h : u64lim x) (hn : 0 < numN x.toNat) : nth (beTo x (numN x.toNat) (numN x.toNat)) 0 ≠ 0 := by
  have h1 := numN_lo hn
  have h2 := beVal_num h
  obtain ⟨s, hs⟩ : ∃ s, s = beTo x (numN x.toNat) (numN x.toNat) := ⟨_, rfl⟩
  have hl : s.length = numN x.toNat := by rw [hs, beTo_len]
  have hb : Bd 256 s := by rw [hs]; exact beTo_bd _ _ _
  rw [← hs] at h2 ⊢
  intro h0
  cases s with
  | nil => simp at hl; omega
  | cons c s =>
    have hc : c = 0 := h0
    subst hc
    have h3 := beVal_append [0] s
    have h4 : beVal [0] = 0 := by have := beVal_snoc [] 0; simpa [beVal_nil] using this
    rw [h4, Int.zero_mul, Int.zero_add] at h3
    have h5 := beVal_bd' (hb.drop (by decide) 1)
    have h6 : (0 :: s : List Int).drop 1 = s := rfl
    have h7 : ([0] ++ s : List Int) = 0 :: s := rfl
    rw [h6] at h5
    rw [h7, h2] at h3
    have h8 : numN x.toNat - 1 = s.length := by simp at hl; omega
    rw [h8] at h1
    have h9 : ((256 ^ s.length : Nat) : Int) ≤ ((x.toNat : Nat) : Int) := by exact_mod_cast h1
    rw [Int.toNat_of_nonneg h.1] at h9
    have h10 : ((256 ^ s.length : Nat) : Int) = 256 ^ s.length := by norm_cast
    omega
theorem numS_def (x : Int) : numS x = (numN x.toNat : Int) :: beTo x (numN x.toNat) (numN x.toNat) := by unfold numS; rfl
/-- A number that was put is read. -/
theorem rd_num {x : Int} (h : u64lim x) (t : List Int) : rdNumber (numS x ++ t) 0 = (x, t, 0) := by
  have h8 := numN_u64 h
  have hv := beVal_num h
  have hh := fun hn => beTo_head h hn
  rw [numS_def, List.cons_append]
  obtain ⟨n, hn⟩ : ∃ n, n = numN x.toNat := ⟨_, rfl⟩
  rw [← hn] at h8 hv hh ⊢
  have hl : (beTo x n n).length = n := beTo_len _ _ _
  rw [rdN_ok (by omega) (by rw [List.length_append, hl]; omega) (by
    rintro ⟨h0, h1⟩
    rw [nth_append_lt (by rw [hl]; omega)] at h1
    exact hh (by omega) h1), Int.toNat_natCast]
  have e1 : (beTo x n n ++ t).take n = beTo x n n := by
    have := List.take_left (l₁ := beTo x n n) (l₂ := t)
    rwa [hl] at this
  have e2 : (beTo x n n ++ t).drop n = t := by
    have := List.drop_left (l₁ := beTo x n n) (l₂ := t)
    rwa [hl] at this
  rw [e1, e2, hv]
/-- What is read was put. -/
theorem rd_num_inv {l t : List Int} {x : Int} (hB : Bd 256 l) (h : rdNumber l 0 = (x, t, 0)) : l = numS x ++ t ∧ u64lim x := by
  have hok := rdNumber_ok hB 0
  rw [h] at hok
  refine ⟨?_, hok.1⟩
  cases l with
  | nil => simp [rdNumber, rdNum] at h
  | cons n l =>
    have n0 := (hB 0).1
    have hn0 : nth (n :: l) 0 = n := rfl
    rw [hn0] at n0
    by_cases h8 : 8 < n
    · rw [rdN_big h8] at h; simp at h
    by_cases h1 : (l.length : Int) < n
    · rw [rdN_more h8 h1] at h; simp at h
    by_cases h2 : 0 < n ∧ nth l 0 = 0
    · rw [rdN_zero h8 h1 h2] at h; simp at h
    rw [rdN_ok h8 h1 h2] at h
    obtain ⟨N, rfl⟩ := Int.eq_ofNat_of_zero_le n0
    rw [Int.toNat_natCast] at h
    simp only [Prod.mk.injEq, and_true] at h
    obtain ⟨hx, ht⟩ := h
    have hlN : N ≤ l.length := by omega
    have hbl : Bd 256 l := by have := hB.drop (by decide) 1; exact this
    have hs := hbl.take (by decide) N
    have hsl : (l.take N).length = N := by rw [List.length_take]; omega
    have hb := beVal_bd' hs
    rw [hsl] at hb
    rw [hx] at hb
    have hnN : numN x.toNat = N := by
      refine numN_eq ?_ fun hN => ?_
      · have h3 : ((x.toNat : Nat) : Int) < ((256 ^ N : Nat) : Int) := by
          rw [Int.toNat_of_nonneg hb.1]
          have : ((256 ^ N : Nat) : Int) = 256 ^ N := by norm_cast
          omega
        exact_mod_cast h3
      · have hne : nth l 0 ≠ 0 := fun e => h2 ⟨by omega, e⟩
        have h3 := beVal_append ((l.take N).take 1) ((l.take N).drop 1)
        rw [List.take_append_drop, List.length_drop, hsl, hx] at h3
        have h4 : (l.take N).take 1 = [nth l 0] := by
          rw [List.take_take, show min 1 N = 1 by omega]
          have := take_snoc_nth' (l := l) (k := 0) (by omega)
          simpa using this
        have h5 := beVal_bd' (hs.drop (by decide) 1)
        have h6 := (hbl 0).1
        have h7 : beVal [nth l 0] = nth l 0 := by
          have := beVal_snoc [] (nth l 0)
          simpa [beVal_nil] using this
        rw [h4, h7] at h3
        have h8 := pow_pos (N - 1)
        have h9 : 256 ^ (N - 1) ≤ nth l 0 * 256 ^ (N - 1) := by
          have := Int.mul_le_mul_of_nonneg_right (show (1 : Int) ≤ nth l 0 by omega) (Int.le_of_lt h8)
          rwa [Int.one_mul] at this
        have h10 : ((256 ^ (N - 1) : Nat) : Int) ≤ ((x.toNat : Nat) : Int) := by
          rw [Int.toNat_of_nonneg hb.1]
          have : ((256 ^ (N - 1) : Nat) : Int) = 256 ^ (N - 1) := by norm_cast
          omega
        exact_mod_cast h10
    rw [numS_def, hnN]
    have e1 := beTo_beVal hs N (by omega)
    rw [hsl, hx, List.take_of_length_le (by omega)] at e1
    rw [e1, ← ht, List.cons_append, List.take_append_drop]
end Go.Proofs.YtjieiijbgbkikaaDoor
end
