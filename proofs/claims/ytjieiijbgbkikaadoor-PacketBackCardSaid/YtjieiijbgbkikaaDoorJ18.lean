/- Lemmas of a proof over the given program, joined by wip/join.py: KL9B. -/
import Derived.Test.YtjieiijbgbkikaaDoorJ14
import Derived.Test.YtjieiijbgbkikaaDoorJ15
set_option linter.unusedSimpArgs false
set_option linter.unusedVariables false
section
/- Law 9: PacketBack, the walk. -/
namespace Go.Proofs.YtjieiijbgbkikaaDoor
open Go Go.RowKit
set_option maxRecDepth 100000
attribute [local go_sem] cell?_eq frozen?_eq heap_setCell_eq heap_setCell_ne
theorem PSealPost.form {secret : List Int} {way session epoch n : Int} {plain : List Int} {w w' : World} {e : Ending} (h : PSealPost secret way session epoch n plain w e w') :
    ∃ (x' : Pkt) (v' : Value) (c : Int), e = .returned (.tuple #[.agg (pktC x' v'), .int .i64 c]) ∧ v'.oneCell' = true ∧ Below w.heap.size w w' := by
  obtain ⟨h, hB⟩ := h
  split at h
  · obtain ⟨vb, rfl, hW⟩ := h
    obtain ⟨g, c, rfl, _⟩ := hW.sl
    exact ⟨_, _, _, rfl, rfl, hB⟩
  · subst h
    exact ⟨_, _, _, rfl, rfl, hB⟩
/-- A valid data packet is what Seal fills, but for its body. -/
theorem sealX_of {x : Pkt} {bl : Nat} (hk : x.kind = 3) (h : checkS x bl = 0) : sealX x.session x.epoch x.count = x := by
  rw [checkS_iff] at h
  unfold chk mayS zeroS at h
  simp [hk] at h
  obtain ⟨k, pe, s, e, c, r, mk⟩ := x
  simp only [sealX, pkt0] at *
  simp_all
theorem psealErr_of {x : Pkt} {bl pl : Nat} (hk : x.kind = 3) (h : checkS x bl = 0) (hp : pl ≤ 65536) : psealErr x.session x.epoch x.count pl = 0 := by
  unfold psealErr
  rw [if_neg (by omega), sealX_of hk h, along_of_check hk h, if_pos rfl]
theorem readErr_more {x : Pkt} (hx : PktOk x) {m : List Int} (hmB : Bd 256 m) (hc : checkS x m.length = 0) : readErr (writeS x m ++ [0]) = 4 := by
  have h := read_write hx hmB hc (t := [0]) (Bd.of_mem (by decide) (by decide))
  unfold readErr
  rw [h]
  rw [if_neg]
  intro h1
  have h2 := (rdEnd_zero h1.1).2
  cases h2
theorem readErr_write {x : Pkt} (hx : PktOk x) {m : List Int} (hmB : Bd 256 m) (hc : checkS x m.length = 0) : readErr (writeS x m) = 0 ∧ readS (writeS x m) = (x, m, [], 0) := by
  have h := read_write hx hmB hc (t := []) (Bd.nil (by decide))
  rw [List.append_nil] at h
  refine ⟨?_, h⟩
  unfold readErr
  rw [h, if_pos ⟨rfl, hc⟩]
theorem Wr.lt {base : Nat} {w : World} {g n c : Nat} {l : List Int} (h : Wr base w (.slice (some ⟨g, 0, none⟩) n c) l) : g < w.heap.size := by
  obtain ⟨g', cap, cur, e, hb, hg, _⟩ := h
  cases e
  exact (Array.getElem?_eq_some_iff.1 hg).1
set_option maxHeartbeats 32000000 in
theorem back9_any (x : Pkt) (hx : PktOk x) (m : List Int) (pp : Option Addr) (cp : Nat) (hmB : Bd 256 m) (hmc : m.length ≤ cp) (l : List Int) (lp : Option Addr) (lc : Nat) (hlB : Bd 256 l) (secret : List Int) (hs : secret.length = 32) (hsB : Bd 256 secret) (way : Int)
    (plain : List Int) (np : Option Addr) (nc : Nat) (hnB : Bd 256 plain) (w : World) (hR : Rnd w) (hC : Cols w) (hm0 : SL .u8 w pp m) (hl0 : SL .u8 w lp l) (hn0 : SL .u8 w np plain) :
    Calls Tryd.prog 6 #[.agg (pktC x (.slice pp m.length cp)), .slice lp l.length lc, .agg (ints .u8 secret), .int .i64 way, .slice np plain.length nc] w fun e w' => e = .returned (.bool true) ∧ Below w.heap.size w w' := by
  have hRlt := Lib.hid hR.lt
  have hClt := Lib.hid hC.lt
  have hl10 := fun (g : Nat) (c : Array Value) (wx : World) (h : wx.heap[g]? = some (.cells c 27 (0, 0))) (hc : c.size = 38) => run_loadAt_row (P := Tryd.prog) (ty := 27) h Tryd.underlying27 rfl (by kernel_rfl) hc
  have HLD := Lib.hid hl10
  have hls := fun (S : Nat) (wx : World) (h : wx.heap[S]? = some (.cells (ints .u8 secret) 31 (0, 0))) => run_loadAt_row (P := Tryd.prog) (ty := 31) h Tryd.underlying31 rfl (by kernel_rfl) (by rw [size_ints, hs])
  have HLSS := Lib.hid hls
  clear hl10 hls
  go_enter Tryd.func6, Tryd.ntmps6
  go_wp2_with (first | (refine bx_abs rfl (ty := 27) rfl rfl ?_; intro W0 X hX0 hBX hzX hzX') | (refine bx_abs rfl (ty := 31) rfl rfl ?_; intro W S hS0 hBS hzS hzS') | (go_at_call 9; fail))
  have hX1 := below_blk hBS hX0
  have hB1 := hBX.trans (hBS.mono hBX.size)
  have hXS : X ≠ S := fun e => by have := hzX'.out; omega
  clear hX0 hBS hBX
  refine (lives9_any W (hR.below hB1 hRlt.out) (hC.below hB1 hClt.out)).mono ?_
  rintro e w2 ⟨rfl, hB2⟩
  have hX2 := below_blk hB2 hX1
  have hS2 := below_blk hB2 hS0
  have hBw2 := hB1.trans (hB2.mono hB1.size)
  clear hX1 hS0 hB2 hB1
  by_cases hlm : 300 < m.length
  · have i1 : decide ((300 : Int) < (m.length : Int)) = true := by simp; omega
    go_wp2
    go_ret
    exact ⟨rfl, hBw2⟩
  have i1 : decide ((300 : Int) < (m.length : Int)) = false := by simp; omega
  by_cases hll : 300 < l.length
  · have i2 : decide ((300 : Int) < (l.length : Int)) = true := by simp; omega
    go_wp2
    go_ret
    exact ⟨rfl, hBw2⟩
  have i2 : decide ((300 : Int) < (l.length : Int)) = false := by simp; omega
  by_cases hln : 300 < plain.length
  · have i3 : decide ((300 : Int) < (plain.length : Int)) = true := by simp; omega
    go_wp2
    go_ret
    exact ⟨rfl, hBw2⟩
  have i3 : decide ((300 : Int) < (plain.length : Int)) = false := by simp; omega
  have hx200 := writeS_le hx (m := m) (by omega)
  go_wp2_with (go_at_call 16; fail)
  refine (kown_any l (by omega) lp lc w2 (hl0.below hBw2)).mono ?_
  rintro e w3 ⟨v3, rfl, hO3, hB3⟩
  obtain ⟨p3, c3, rfl, hS3, hc3⟩ := hO3.form
  have hX3 := below_blk hB3 hX2
  have hS_3 := below_blk hB3 hS2
  have hBw3 := hBw2.trans (hB3.mono hBw2.size)
  clear hX2 hS2 hB3 hBw2 hO3
  go_wp2_with (go_at_call 15; fail)
  refine (pread_any l (by omega) hlB p3 c3 w3 hS3).mono ?_
  intro e w4 hP
  unfold ReadPost at hP
  obtain ⟨hP, hB4⟩ := hP
  have hX4 := below_blk hB4 hX3
  have hS_4 := below_blk hB4 hS_3
  have hBw4 := hBw3.trans (hB4.mono hBw3.size)
  clear hX3 hS_3 hB4 hBw3 hS3 hc3
  by_cases hre : readErr l = 0
  · rw [if_pos hre] at hP
    obtain ⟨vq, rfl, hOq⟩ := hP
    have hwr := write_read hlB hre
    have hro := readS_ok hlB
    obtain ⟨y, hy⟩ : ∃ y, y = (readS l).1 := ⟨_, rfl⟩
    obtain ⟨mb, hmb⟩ : ∃ mb, mb = (readS l).2.1 := ⟨_, rfl⟩
    have hyok : PktOk y := by rw [hy]; exact hro.pkt
    have hmbl : mb.length ≤ 1048576 := by rw [hmb]; exact hro.body
    rw [← hy, ← hmb] at hwr
    rw [← hmb] at hOq
    rw [← hy]
    obtain ⟨pq, cq, rfl, hSq, hcq⟩ := hOq.form
    clear hy hmb hro hOq
    go_wp2_with (first | (refine al_abs rfl (T := 27) rfl (cs := pktC pkt0 (.slice none 0 0)) (by kernel_rfl) ?_; intro w5 Q hQw5 halQ hzQ hzQ') | (refine st_row rfl (ty := 27) (cs := pktC y (.slice pq mb.length cq)) rfl rfl rfl (by exact hQw5) (n := 38) (by kernel_rfl) (pktC_size _ _) (pktC_size _ _) (pktC_one _ _ rfl) ?_; have hQ_w6 := setRow_heap w5 Q _ (pktC y (.slice pq mb.length cq)) _ _ hQw5; have hkQ : Kep (fun b => b = Q) w4 (w5.setRow Q (pktC y (.slice pq mb.length cq))) := Kep.setRow (S := fun b => b = Q) (g := Q) (Kep.of_below halQ (fun b hb _ => hb)) (.inl rfl) _; generalize w5.setRow Q (pktC y (.slice pq mb.length cq)) = w6 at *; clear hQw5 halQ) | (refine ld_row rfl (ty := 27) rfl rfl hQ_w6 Tryd.underlying27 rfl (by kernel_rfl) (pktC_size _ _) ?_) | (go_at_call 17; fail))
    have hQX : X ≠ Q := fun e => by have := (Array.getElem?_eq_some_iff.1 hX4).1; omega
    have hQS : S ≠ Q := fun e => by have := (Array.getElem?_eq_some_iff.1 hS_4).1; omega
    have hX6 := hkQ.heap hX4 hQX
    have hS_6 := hkQ.heap hS_4 hQS
    have hQge : w.heap.size ≤ Q := by have := hBw4.size; omega
    have hBw6 := hkQ.below hBw4 hBw4.size (fun k e => by have := hBw4.size; omega)
    have hSq6 := hSq.kep hkQ (fun a ha hn e => by have := hSq.lt hn a ha; omega)
    clear hX4 hS_4 hBw4 hkQ hSq
    refine (bytes_any y hyok mb pq cq (by omega) w6 hSq6).mono ?_
    rintro e w7 ⟨v7, c7, rfl, hc7, ho7, _, hB7⟩
    have hc70 : c7 = 0 := hc7.trans hwr.2
    subst hc70
    have hO7 := ho7 rfl
    rw [hwr.1] at hO7
    obtain ⟨p7, c7, rfl, hS7, _⟩ := hO7.form
    have hXJ := below_blk hB7 hX6
    have hSJ := below_blk hB7 hS_6
    have hQJ := below_blk hB7 hQ_w6
    have hBJ := hBw6.trans (hB7.mono hBw6.size)
    have hlJ := hl0.below hBJ
    clear hX6 hS_6 hQ_w6 hB7 hBw6 hc7 ho7 hO7 hSq6
    have cv1 := run_str (P := Tryd.prog) (dst := 9) Tryd.underlying25 Tryd.underlying5 Tryd.underlying9 hS7 l.length c7 rfl
    have cv2 := run_str (P := Tryd.prog) (dst := 9) Tryd.underlying25 Tryd.underlying5 Tryd.underlying9 hlJ l.length lc rfl
    have hqs : (pktC y (.slice pq mb.length cq)).size = 38 := pktC_size _ _
    generalize pktC y (.slice pq mb.length cq) = cqs at *
    obtain ⟨wJ, hwJ⟩ : ∃ wJ, wJ = w7 := ⟨_, rfl⟩
    subst hwJ
    clear hwr hre hS7 hlJ
    have hmJ := hm0.below hBJ
    have hQJlt := Lib.hid (Array.getElem?_eq_some_iff.1 hQJ).1
    have hXJlt := Lib.hid (Array.getElem?_eq_some_iff.1 hXJ).1
    have hSJlt := Lib.hid (Array.getElem?_eq_some_iff.1 hSJ).1
    go_wp2_with (first | (refine ld_row rfl (ty := 27) rfl rfl hXJ Tryd.underlying27 rfl (by kernel_rfl) (pktC_size _ _) ?_) | (go_at_call 17; fail))
    try clear cv1 cv2
    refine (bytes_any x hx m pp cp (by omega) wJ hmJ).mono ?_
    rintro e w8 ⟨v8, c8, rfl, hc8, ho8, hn8, hB8⟩
    have hX8 := below_blk hB8 hXJ
    have hS8 := below_blk hB8 hSJ
    have hQ8 := below_blk hB8 hQJ
    have hBw8 := hBJ.trans (hB8.mono hBJ.size)
    have hB8s := Lib.hid hB8.size
    clear hXJ hSJ hQJ hB8
    by_cases hc0 : c8 = 0
    · subst hc0
      have hck := hc8.symm
      have hO8 := ho8 rfl
      have hrw := readErr_write hx hmB hck
      have hrm := readErr_more hx hmB hck
      have hLB := writeS_bd hx (m := m) (by omega) hmB
      obtain ⟨L, hL⟩ : ∃ L, L = writeS x m := ⟨_, rfl⟩
      rw [← hL] at hO8 hrw hrm hLB hx200
      have hLl : L.length ≤ 1400 := by omega
      obtain ⟨p8, c8, rfl, hS8L, hc8L⟩ := hO8.form
      have HRW := Lib.hid hrw
      have HRM := Lib.hid hrm
      have HCK := Lib.hid hck
      clear hL hrw hrm hck hc8 ho8 hn8
      go_wp2_with (go_at_call 15; fail)
      refine (pread_any L (by omega) hLB p8 c8 w8 hS8L).mono ?_
      intro e w9 hP
      unfold ReadPost at hP
      rw [if_pos HRW.out.1, HRW.out.2] at hP
      obtain ⟨⟨vb, rfl, hOb⟩, hB9⟩ := hP
      dsimp only at hOb
      obtain ⟨pb, cb, rfl, hSb, hcb⟩ := hOb.form
      have hX9 := below_blk hB9 hX8
      have hS9 := below_blk hB9 hS8
      have hQ9 := below_blk hB9 hQ8
      have hO9 := hO8.below hB9
      have hO9lt := hO8.lt
      have hBw9 := hBw8.trans (hB9.mono hBw8.size)
      have hw89 := hB9.size
      have hw8J := hBJ.size
      dsimp only
      obtain ⟨L0, hL0⟩ : ∃ L0, L0 = L ++ [0] := ⟨_, rfl⟩
      have hL0l : L0.length = L.length + 1 := by rw [hL0]; simp
      have hL0B : Bd 256 L0 := by rw [hL0]; exact hLB.append (by decide) (Bd.of_mem (by decide) (by decide))
      have HL0 := Lib.hid hL0
      clear hL0
      have HOB := Lib.hid hOb.lt
      have HO9 := Lib.hid hO9lt
      clear hO9lt hO8 hOb
      have hw8J2 : wJ.heap.size ≤ w9.heap.size := Nat.le_trans hB8s.out hB9.size
      go_wp2_with (first | (refine st_row rfl (ty := 27) (cs := pktC x (.slice pb m.length cb)) rfl rfl rfl (by exact hQ9) (n := 38) (by kernel_rfl) hqs (pktC_size _ _) (pktC_one _ _ rfl) ?_; have hQa := setRow_heap w9 Q _ (pktC x (.slice pb m.length cb)) _ _ hQ9; have hka : Kep (fun b => b = Q) w9 (w9.setRow Q (pktC x (.slice pb m.length cb))) := Kep.setRow (S := fun b => b = Q) (g := Q) (Kep.refl _ _) (.inl rfl) _; generalize w9.setRow Q (pktC x (.slice pb m.length cb)) = wa at *; have hXa := hka.heap hX9 hQX; have hSa := hka.heap hS9 hQS; have hOa := hO9.kep hka (fun g hg e => by have := HO9.out g hg; have := hQJlt.out; omega); have hSba := hSb.kep hka (fun a ha _ e => by subst ha; have := HOB.out _ rfl; have := hQJlt.out; have := hB8s.out; omega); have hBas : RowKit.Hid (wJ.heap.size ≤ wa.heap.size) := (show _ ≤ _ from Nat.le_trans hw8J2 hka.size); have hBa := hka.below hBw9 hBw9.size (fun k e => by subst e; exact hQge); clear hka hX9 hS9 hQ9 hSb hO9 hBw9 hS8L) | (refine ap_ints rfl rfl Tryd.underlying25 (E := 5) (k := .u8) (by' := 1) (by kernel_rfl) (by decide) (base := wJ.heap.size) (v := .slice p8 L.length c8) (l := L) (m := [0]) rfl (by exact hOa.below ((Below.refl _ _).alloc (Nat.le_refl _) _)) rfl rfl (by exact SL.row_all (heap_alloc_at _ _ _ rfl)) (by simp; omega) (by have := hBas.out; simp; omega) ?_; intro v10 w10 hO10 hg10 _) | (go_at_call 15; fail))
      rw [← HL0.out] at hO10
      obtain ⟨p10, c10, rfl, hS10L, _⟩ := hO10.form
      have hkb : Kep (fun g => (Value.slice p8 L.length c8).ownBlock = some g) wa w10 := ((Kep.refl _ wa).alloc _).trans (Kep.of_grown hg10 (fun _ e => e))
      have hX10 := hkb.heap hXa (fun e => by have := HO9.out _ e; have := hXJlt.out; omega)
      have hS10 := hkb.heap hSa (fun e => by have := HO9.out _ e; have := hSJlt.out; omega)
      have hQ10 := hkb.heap hQa (fun e => by have := HO9.out _ e; have := hQJlt.out; omega)
      have hSb10 := hSba.kep hkb (fun a ha _ e => by subst ha; have h1 := HOB.out _ rfl; have h2 := HO9.out _ e; omega)
      have hB10 := hkb.below hBa hBa.size (fun k e => by have := HO9.out k e; omega)
      clear hkb hg10 hO10 hXa hSa hQa hSba hBa hOa
      refine (pread_any L0 (by omega) hL0B p10 c10 w10 hS10L).mono ?_
      intro e w11 hP
      unfold ReadPost at hP
      have hrm2 : readErr L0 = 4 := by rw [HL0.out]; exact HRM.out
      rw [if_neg (by rw [hrm2]; decide)] at hP
      obtain ⟨rfl, hB11⟩ := hP
      have hX11 := below_blk hB11 hX10
      have hS11 := below_blk hB11 hS10
      have hQ11 := below_blk hB11 hQ10
      have hSb11 := hSb10.below hB11
      have hBw11 := hB10.trans (hB11.mono hB10.size)
      clear hX10 hS10 hQ10 hSb10 hB10 hB11 hS10L hrm2
      have hX_lt := (Array.getElem?_eq_some_iff.1 hX11).1
      have hS_lt := (Array.getElem?_eq_some_iff.1 hS11).1
      have hQ_lt := (Array.getElem?_eq_some_iff.1 hQ11).1
      have HXl := Lib.hid hX_lt
      have HSl := Lib.hid hS_lt
      have HQl := Lib.hid hQ_lt
      clear hX_lt hS_lt hQ_lt
      go_wp2_with (first | (refine al_abs rfl (T := 27) rfl (cs := pktC pkt0 (.slice none 0 0)) (by kernel_rfl) ?_; intro w12 Y hYw12 halY hzY hzY') | (refine st_row rfl (ty := 27) (cs := pktC pkt0 (.slice none 0 0)) rfl rfl rfl (by exact hYw12) (n := 38) (by kernel_rfl) (pktC_size _ _) (pktC_size _ _) (pktC_one _ _ rfl) ?_; have hY_w13 := setRow_heap w12 Y _ (pktC pkt0 (.slice none 0 0)) _ _ hYw12; have hkY : Kep (fun b => b = Y) w11 (w12.setRow Y (pktC pkt0 (.slice none 0 0))) := Kep.setRow (S := fun b => b = Y) (g := Y) (Kep.of_below halY (fun b hb _ => hb)) (.inl rfl) _; generalize w12.setRow Y (pktC pkt0 (.slice none 0 0)) = w13 at *; clear hYw12 halY; have hX13 := hkY.heap hX11 (fun e => by have := HXl.out; omega); have hQ13 := hkY.heap hQ11 (fun e => by have := HQl.out; omega); have hlX := Lib.hid (HLD.out _ _ _ hX13 (pktC_size _ _)); have hlQ := Lib.hid (HLD.out _ _ _ hQ13 (pktC_size _ _))) | (refine ld_g rfl (ty := 27) rfl (p := .pointer (some ⟨X, 0, none⟩)) rfl hlX.out ?_) | (refine ld_g rfl (ty := 27) rfl (p := .pointer (some ⟨Q, 0, none⟩)) rfl hlQ.out ?_) | (go_at_call 18; fail))
      have hS13 := hkY.heap hS11 (fun e => by have := HSl.out; omega)
      have hB13 := hkY.below hBw11 hBw11.size (fun k e => by have := hBw11.size; omega)
      have hSb13 := hSb11.kep hkY (fun a ha hn e => by have := hSb11.lt hn a ha; omega)
      refine (kpacket_same x hx m pp pb cp cb w13 (hm0.below hB13) hSb13).mono ?_
      rintro e w14 ⟨rfl, hB14⟩
      have hX14 := below_blk hB14 hX13
      have hS14 := below_blk hB14 hS13
      have hBw14 := hB13.trans (hB14.mono hB13.size)
      clear hX13 hQ13 hS13 hB13 hSb13 hB14 hkY hX11 hS11 hQ11 hSb11 hBw11 hlX hlQ hY_w13
      go_wp2
      by_cases hk : x.kind = 3
      · have b2 : (x.kind != 3) = false := by rw [hk]; rfl
        have HK := Lib.hid hk
        have HSX := Lib.hid (sealX_of hk HCK.out)
        have HSE := Lib.hid (psealErr_of (pl := plain.length) hk HCK.out (by omega))
        clear hk
        obtain ⟨C, hCC⟩ : ∃ C, C = psealS secret way x.session x.epoch x.count plain := ⟨_, rfl⟩
        have hCl : C.length = plain.length + 16 := by rw [hCC, psealS_len]
        have hCB : Bd 256 C := by rw [hCC]; exact psealS_bd _ _ _ _ _ _
        have HCC := Lib.hid hCC
        have HCl := Lib.hid hCl
        clear hCC hCl
        refine wp_region_via [10] (S1 (fun w' => w'.heap[X]? = some (.cells (pktC x (.slice pp m.length cp)) 27 (0, 0)) ∧ w'.heap[S]? = some (.cells (ints .u8 secret) 31 (0, 0))) (fun _ => True)) (fun a a' w' => ∃ (Z : Nat) (po : Option Addr) (co : Nat) (gs cz : Nat), a' = ((((((((((((((((a.put (some 94) (.agg (ints .u8 secret))).put (some 95) (.int .i64 way)).put (some 96) (.pointer (some ⟨X, 2, none⟩))).put (some 97) (.int .u64 x.session)).put (some 98) (.pointer (some ⟨X, 3, none⟩))).put (some 99) (.int .u32 x.epoch)).put (some 100) (.pointer (some ⟨X, 4, none⟩))).put (some 101) (.int .u64 x.count)).put (some 102) (.slice np plain.length nc)).put (some 103) (.slice po plain.length co)).put (some 104) (.tuple #[.agg (pktC x (.slice (some ⟨gs, 0, none⟩) C.length cz)), .int .i64 0])).put (some 93) (.tuple #[.agg (pktC x (.slice (some ⟨gs, 0, none⟩) C.length cz)), .int .i64 0])).put (some 105) (.agg (pktC x (.slice (some ⟨gs, 0, none⟩) C.length cz)))).put (some 106) (.int .i64 0)).put (some 18) (.pointer (some ⟨Z, 0, none⟩))).put (some 12) (.int .i64 0)) ∧ w'.heap[X]? = some (.cells (pktC x (.slice pp m.length cp)) 27 (0, 0)) ∧ w'.heap[S]? = some (.cells (ints .u8 secret) 31 (0, 0)) ∧ w'.heap[Z]? = some (.cells (pktC x (.slice (some ⟨gs, 0, none⟩) C.length cz)) 27 (0, 0)) ∧ Below w.heap.size w w' ∧ SL .u8 w' (some ⟨gs, 0, none⟩) C ∧ C.length ≤ cz) (by kernel_rfl) ?_ ?_
        · intro HQ
          have hX15 : w14.drew.heap[X]? = _ := hX14
          have hS15 : w14.drew.heap[S]? = _ := hS14
          have hB15 : Below w.heap.size w w14.drew := hBw14.drew
          generalize w14.drew = w15 at *
          have hI15 : S1 (fun w' => w'.heap[X]? = some (.cells (pktC x (.slice pp m.length cp)) 27 (0, 0)) ∧ w'.heap[S]? = some (.cells (ints .u8 secret) 31 (0, 0))) (fun _ => True) [false] w15 := ⟨⟨hX15, hS15⟩, fun _ => trivial⟩
          try simp only [Act.put, List.setIfInBounds_toArray, List.set_cons_zero, List.set_cons_succ]
          refine takeA (i := 0) (v := ?_) rfl (by kernel_rfl) (fun _ _ _ h => h) rfl (by exact hI15) (fun wx hx => ?_) ?_
          rotate_left
          · refine (exec_load (p := .pointer (some ⟨S, 0, none⟩)) rfl rfl (HLSS.out _ _ hx.2)).trans ?_; with_reducible rfl
          try simp only [Act.put, List.setIfInBounds_toArray, List.set_cons_zero, List.set_cons_succ]
          refine takeA (i := 1) (v := ?_) rfl (by kernel_rfl) (fun _ _ _ h => h) rfl (by exact hI15) (fun wx hx => ?_) ?_
          rotate_left
          · go_simp; try with_reducible rfl
          try simp only [Act.put, List.setIfInBounds_toArray, List.set_cons_zero, List.set_cons_succ]
          refine takeA (i := 2) (v := ?_) rfl (by kernel_rfl) (fun _ _ _ h => h) rfl (by exact hI15) (fun wx hx => ?_) ?_
          rotate_left
          · go_simp; try with_reducible rfl
          try simp only [Act.put, List.setIfInBounds_toArray, List.set_cons_zero, List.set_cons_succ]
          refine takeA (i := 3) (v := ?_) rfl (by kernel_rfl) (fun _ _ _ h => h) rfl (by exact hI15) (fun wx hx => ?_) ?_
          rotate_left
          · have hxX := hx.1; go_simp; try with_reducible rfl
          try simp only [Act.put, List.setIfInBounds_toArray, List.set_cons_zero, List.set_cons_succ]
          refine takeA (i := 4) (v := ?_) rfl (by kernel_rfl) (fun _ _ _ h => h) rfl (by exact hI15) (fun wx hx => ?_) ?_
          rotate_left
          · go_simp; try with_reducible rfl
          try simp only [Act.put, List.setIfInBounds_toArray, List.set_cons_zero, List.set_cons_succ]
          refine takeA (i := 5) (v := ?_) rfl (by kernel_rfl) (fun _ _ _ h => h) rfl (by exact hI15) (fun wx hx => ?_) ?_
          rotate_left
          · have hxX := hx.1; go_simp; try with_reducible rfl
          try simp only [Act.put, List.setIfInBounds_toArray, List.set_cons_zero, List.set_cons_succ]
          refine takeA (i := 6) (v := ?_) rfl (by kernel_rfl) (fun _ _ _ h => h) rfl (by exact hI15) (fun wx hx => ?_) ?_
          rotate_left
          · go_simp; try with_reducible rfl
          try simp only [Act.put, List.setIfInBounds_toArray, List.set_cons_zero, List.set_cons_succ]
          refine takeA (i := 7) (v := ?_) rfl (by kernel_rfl) (fun _ _ _ h => h) rfl (by exact hI15) (fun wx hx => ?_) ?_
          rotate_left
          · have hxX := hx.1; go_simp; try with_reducible rfl
          try simp only [Act.put, List.setIfInBounds_toArray, List.set_cons_zero, List.set_cons_succ]
          refine takeA (i := 8) (v := ?_) rfl (by kernel_rfl) (fun _ _ _ h => h) rfl (by exact hI15) (fun wx hx => ?_) ?_
          rotate_left
          · go_simp; try with_reducible rfl
          try simp only [Act.put, List.setIfInBounds_toArray, List.set_cons_zero, List.set_cons_succ]
          refine wpAnyE_all (rs := [9, 14]) (by kernel_rfl) (by decide) ?_
          intro ir hir
          rcases (show ir = 9 ∨ ir = 14 by simpa using hir) with rfl | rfl
          · refine wpOp_of rfl rfl ?_
            go_simp
            refine (kown_any plain (by omega) np nc w15 (hn0.below hB15)).mono ?_
            rintro e w16 ⟨vo, rfl, hOo, hb16⟩
            obtain ⟨po, co, rfl, hSo16, hco⟩ := hOo.form
            have hX16 := below_blk hb16 hX15
            have hS16 := below_blk hb16 hS15
            have hB16 := hB15.trans (hb16.mono hB15.size)
            have hI16 : S1 (fun w' => w'.heap[X]? = some (.cells (pktC x (.slice pp m.length cp)) 27 (0, 0)) ∧ w'.heap[S]? = some (.cells (ints .u8 secret) 31 (0, 0))) (fun _ => True) [false] w16 := ⟨⟨hX16, hS16⟩, fun _ => trivial⟩
            refine ⟨by exact hI16, ?_⟩
            try simp only [Act.put, List.setIfInBounds_toArray, List.set_cons_zero, List.set_cons_succ]
            refine wpAnyE_all (rs := [10, 14]) (by kernel_rfl) (by decide) ?_
            intro ir hir
            rcases (show ir = 10 ∨ ir = 14 by simpa using hir) with rfl | rfl
            · refine wpOp_of rfl rfl ?_
              go_simp
              refine (pseal_any secret hs hsB way x.session x.epoch x.count hx.session hx.epoch hx.count plain po co w16 (hR.below hB16 hRlt.out) (hC.below hB16 hClt.out) hSo16).mono ?_
              intro e w17 hP
              unfold PSealPost at hP
              rw [if_pos HSE.out, HSX.out, ← HCC.out] at hP
              obtain ⟨⟨vs, rfl, hWs⟩, hb17⟩ := hP
              obtain ⟨gs, cz, rfl, hgs, hcz, hSs17⟩ := hWs.sl
              have hX17 := below_blk hb17 hX16
              have hS17 := below_blk hb17 hS16
              have hB17 := hB16.trans (hb17.mono hB16.size)
              have hgs2 := Lib.hid hgs
              have hI17 : S1 (fun w' => w'.heap[X]? = some (.cells (pktC x (.slice pp m.length cp)) 27 (0, 0)) ∧ w'.heap[S]? = some (.cells (ints .u8 secret) 31 (0, 0))) (fun _ => True) [true] w17 := ⟨⟨hX17, hS17⟩, fun _ => trivial⟩
              refine ⟨by exact hI17, ?_⟩
              try simp only [Act.put, List.setIfInBounds_toArray, List.set_cons_zero, List.set_cons_succ]
              refine takeA (i := 11) (v := ?_) rfl (by kernel_rfl) (fun _ _ _ h => h) rfl (by exact hI17) (fun wx hx => ?_) ?_
              rotate_left
              · go_simp; try with_reducible rfl
              try simp only [Act.put, List.setIfInBounds_toArray, List.set_cons_zero, List.set_cons_succ]
              refine takeA (i := 12) (v := ?_) rfl (by kernel_rfl) (fun _ _ _ h => h) rfl (by exact hI17) (fun wx hx => ?_) ?_
              rotate_left
              · go_simp; try with_reducible rfl
              try simp only [Act.put, List.setIfInBounds_toArray, List.set_cons_zero, List.set_cons_succ]
              refine takeA (i := 13) (v := ?_) rfl (by kernel_rfl) (fun _ _ _ h => h) rfl (by exact hI17) (fun wx hx => ?_) ?_
              rotate_left
              · go_simp; try with_reducible rfl
              try simp only [Act.put, List.setIfInBounds_toArray, List.set_cons_zero, List.set_cons_succ]
              have hgl : RowKit.Hid (gs < w17.heap.size) := Lib.hid (hWs.lt)
              refine runOne (i := 14) (by kernel_rfl) rfl rfl ?_
              refine wp_al (T := 27) (cs := pktC pkt0 (.slice none 0 0)) rfl (by kernel_rfl) ?_
              intro w18 Z hZ18 hb18 hzZ hzZ'
              have hX18 := below_blk hb18 hX17
              have hS18 := below_blk hb18 hS17
              have hSs18 := hSs17.below hb18
              have hB18 := hB17.trans (hb18.mono hB17.size)
              have hXZ : X ≠ Z := fun e => by have := (Array.getElem?_eq_some_iff.1 hX17).1; omega
              have hSZ : S ≠ Z := fun e => by have := (Array.getElem?_eq_some_iff.1 hS17).1; omega
              have hZge : w.heap.size ≤ Z := by have := hB17.size; omega
              have hZs := Lib.hid hzZ
              have hI18 : S1 (fun w' => w'.heap[X]? = some (.cells (pktC x (.slice pp m.length cp)) 27 (0, 0)) ∧ w'.heap[S]? = some (.cells (ints .u8 secret) 31 (0, 0))) (fun _ => True) [true] w18 := ⟨⟨hX18, hS18⟩, fun _ => trivial⟩
              refine ⟨by exact hI18, ?_⟩
              try simp only [Act.put, List.setIfInBounds_toArray, List.set_cons_zero, List.set_cons_succ]
              refine runOne (i := 15) (by kernel_rfl) rfl rfl ?_
              refine wp_st_row (ty := 27) (new := pktC x (.slice (some ⟨gs, 0, none⟩) C.length cz)) rfl rfl rfl (by exact hZ18) (n := 38) (by kernel_rfl) (pktC_size _ _) (pktC_size _ _) (pktC_one _ _ rfl) ?_
              intro w17 hZ17 hk17
              have hX17 := hk17.heap hX18 hXZ
              have hS17 := hk17.heap hS18 hSZ
              have hB17 := hk17.below hB18 hB18.size (fun k e => by subst e; exact hZge)
              have hSs17 := hSs18.kep hk17 (fun a ha _ e => by cases ha; simp only at e; subst e; have h1 := hZs.out; have h2 := hgl.out; omega)
              refine ⟨by exact (show S1 (fun w' => w'.heap[X]? = some (.cells (pktC x (.slice pp m.length cp)) 27 (0, 0)) ∧ w'.heap[S]? = some (.cells (ints .u8 secret) 31 (0, 0))) (fun _ => True) [true] w17 from ⟨⟨hX17, hS17⟩, fun _ => trivial⟩), ?_⟩
              try simp only [Act.put, List.setIfInBounds_toArray, List.set_cons_zero, List.set_cons_succ]
              refine takeA (i := 16) (v := ?_) rfl (by kernel_rfl) (fun _ _ _ h => h) rfl (by exact (show S1 (fun w' => w'.heap[X]? = some (.cells (pktC x (.slice pp m.length cp)) 27 (0, 0)) ∧ w'.heap[S]? = some (.cells (ints .u8 secret) 31 (0, 0))) (fun _ => True) [true] w17 from ⟨⟨hX17, hS17⟩, fun _ => trivial⟩)) (fun wx hx => ?_) ?_
              rotate_left
              · go_simp; try with_reducible rfl
              try simp only [Act.put, List.setIfInBounds_toArray, List.set_cons_zero, List.set_cons_succ]
              refine wpAnyE_done (by kernel_rfl) ?_ _
              exact HQ _ _ ⟨Z, po, co, gs, cz, by simp only [Act.put, List.setIfInBounds_toArray, List.set_cons_zero, List.set_cons_succ], hX17, hS17, hZ17, hB17, hSs17, hcz⟩
            · refine wpOp_of rfl rfl ?_
              refine wp_al (T := 27) (cs := pktC pkt0 (.slice none 0 0)) rfl (by kernel_rfl) ?_
              intro w17 Z hZ17 hb17 hzZ hzZ'
              have hX17 := below_blk hb17 hX16
              have hS17 := below_blk hb17 hS16
              have hSo17 := hSo16.below hb17
              have hB17 := hB16.trans (hb17.mono hB16.size)
              have hXZ : X ≠ Z := fun e => by have := (Array.getElem?_eq_some_iff.1 hX16).1; omega
              have hSZ : S ≠ Z := fun e => by have := (Array.getElem?_eq_some_iff.1 hS16).1; omega
              have hZge : w.heap.size ≤ Z := by have := hB16.size; omega
              have hZs := Lib.hid hzZ
              have hI17 : S1 (fun w' => w'.heap[X]? = some (.cells (pktC x (.slice pp m.length cp)) 27 (0, 0)) ∧ w'.heap[S]? = some (.cells (ints .u8 secret) 31 (0, 0))) (fun _ => True) [false] w17 := ⟨⟨hX17, hS17⟩, fun _ => trivial⟩
              refine ⟨by exact hI17, ?_⟩
              try simp only [Act.put, List.setIfInBounds_toArray, List.set_cons_zero, List.set_cons_succ]
              refine runOne (i := 10) (by kernel_rfl) rfl rfl ?_
              go_simp
              refine (pseal_any secret hs hsB way x.session x.epoch x.count hx.session hx.epoch hx.count plain po co w17 (hR.below hB17 hRlt.out) (hC.below hB17 hClt.out) hSo17).mono ?_
              intro e w18 hP
              unfold PSealPost at hP
              rw [if_pos HSE.out, HSX.out, ← HCC.out] at hP
              obtain ⟨⟨vs, rfl, hWs⟩, hb18⟩ := hP
              obtain ⟨gs, cz, rfl, hgs, hcz, hSs18⟩ := hWs.sl
              have hX18 := below_blk hb18 hX17
              have hS18 := below_blk hb18 hS17
              have hZ18 := below_blk hb18 hZ17
              have hB18 := hB17.trans (hb18.mono hB17.size)
              have hgs2 := Lib.hid hgs
              have hZlt := Lib.hid (Array.getElem?_eq_some_iff.1 hZ17).1
              have hI18 : S1 (fun w' => w'.heap[X]? = some (.cells (pktC x (.slice pp m.length cp)) 27 (0, 0)) ∧ w'.heap[S]? = some (.cells (ints .u8 secret) 31 (0, 0))) (fun _ => True) [true] w18 := ⟨⟨hX18, hS18⟩, fun _ => trivial⟩
              refine ⟨by exact hI18, ?_⟩
              try simp only [Act.put, List.setIfInBounds_toArray, List.set_cons_zero, List.set_cons_succ]
              refine takeA (i := 11) (v := ?_) rfl (by kernel_rfl) (fun _ _ _ h => h) rfl (by exact hI18) (fun wx hx => ?_) ?_
              rotate_left
              · go_simp; try with_reducible rfl
              try simp only [Act.put, List.setIfInBounds_toArray, List.set_cons_zero, List.set_cons_succ]
              refine takeA (i := 12) (v := ?_) rfl (by kernel_rfl) (fun _ _ _ h => h) rfl (by exact hI18) (fun wx hx => ?_) ?_
              rotate_left
              · go_simp; try with_reducible rfl
              try simp only [Act.put, List.setIfInBounds_toArray, List.set_cons_zero, List.set_cons_succ]
              refine takeA (i := 13) (v := ?_) rfl (by kernel_rfl) (fun _ _ _ h => h) rfl (by exact hI18) (fun wx hx => ?_) ?_
              rotate_left
              · go_simp; try with_reducible rfl
              try simp only [Act.put, List.setIfInBounds_toArray, List.set_cons_zero, List.set_cons_succ]
              refine runOne (i := 15) (by kernel_rfl) rfl rfl ?_
              refine wp_st_row (ty := 27) (new := pktC x (.slice (some ⟨gs, 0, none⟩) C.length cz)) rfl rfl rfl (by exact hZ18) (n := 38) (by kernel_rfl) (pktC_size _ _) (pktC_size _ _) (pktC_one _ _ rfl) ?_
              intro w17 hZ17 hk17
              have hX17 := hk17.heap hX18 hXZ
              have hS17 := hk17.heap hS18 hSZ
              have hB17 := hk17.below hB18 hB18.size (fun k e => by subst e; exact hZge)
              have hSs17 := hSs18.kep hk17 (fun a ha _ e => by cases ha; simp only at e; subst e; have h1 := hgs2.out; have h2 := hZlt.out; omega)
              refine ⟨by exact (show S1 (fun w' => w'.heap[X]? = some (.cells (pktC x (.slice pp m.length cp)) 27 (0, 0)) ∧ w'.heap[S]? = some (.cells (ints .u8 secret) 31 (0, 0))) (fun _ => True) [true] w17 from ⟨⟨hX17, hS17⟩, fun _ => trivial⟩), ?_⟩
              try simp only [Act.put, List.setIfInBounds_toArray, List.set_cons_zero, List.set_cons_succ]
              refine takeA (i := 16) (v := ?_) rfl (by kernel_rfl) (fun _ _ _ h => h) rfl (by exact (show S1 (fun w' => w'.heap[X]? = some (.cells (pktC x (.slice pp m.length cp)) 27 (0, 0)) ∧ w'.heap[S]? = some (.cells (ints .u8 secret) 31 (0, 0))) (fun _ => True) [true] w17 from ⟨⟨hX17, hS17⟩, fun _ => trivial⟩)) (fun wx hx => ?_) ?_
              rotate_left
              · go_simp; try with_reducible rfl
              try simp only [Act.put, List.setIfInBounds_toArray, List.set_cons_zero, List.set_cons_succ]
              refine wpAnyE_done (by kernel_rfl) ?_ _
              exact HQ _ _ ⟨Z, po, co, gs, cz, by simp only [Act.put, List.setIfInBounds_toArray, List.set_cons_zero, List.set_cons_succ], hX17, hS17, hZ17, hB17, hSs17, hcz⟩
          · refine wpOp_of rfl rfl ?_
            refine wp_al (T := 27) (cs := pktC pkt0 (.slice none 0 0)) rfl (by kernel_rfl) ?_
            intro w16 Z hZ16 hb16 hzZ hzZ'
            have hX16 := below_blk hb16 hX15
            have hS16 := below_blk hb16 hS15
            have hB16 := hB15.trans (hb16.mono hB15.size)
            have hXZ : X ≠ Z := fun e => by have := (Array.getElem?_eq_some_iff.1 hX15).1; omega
            have hSZ : S ≠ Z := fun e => by have := (Array.getElem?_eq_some_iff.1 hS15).1; omega
            have hZge : w.heap.size ≤ Z := by have := hB15.size; omega
            have hZs := Lib.hid hzZ
            have hI16 : S1 (fun w' => w'.heap[X]? = some (.cells (pktC x (.slice pp m.length cp)) 27 (0, 0)) ∧ w'.heap[S]? = some (.cells (ints .u8 secret) 31 (0, 0))) (fun _ => True) [false] w16 := ⟨⟨hX16, hS16⟩, fun _ => trivial⟩
            refine ⟨by exact hI16, ?_⟩
            try simp only [Act.put, List.setIfInBounds_toArray, List.set_cons_zero, List.set_cons_succ]
            refine runOne (i := 9) (by kernel_rfl) rfl rfl ?_
            go_simp
            refine (kown_any plain (by omega) np nc w16 (hn0.below hB16)).mono ?_
            rintro e w17 ⟨vo, rfl, hOo, hb17⟩
            obtain ⟨po, co, rfl, hSo17, hco⟩ := hOo.form
            have hX17 := below_blk hb17 hX16
            have hS17 := below_blk hb17 hS16
            have hZ17 := below_blk hb17 hZ16
            have hB17 := hB16.trans (hb17.mono hB16.size)
            have hI17 : S1 (fun w' => w'.heap[X]? = some (.cells (pktC x (.slice pp m.length cp)) 27 (0, 0)) ∧ w'.heap[S]? = some (.cells (ints .u8 secret) 31 (0, 0))) (fun _ => True) [false] w17 := ⟨⟨hX17, hS17⟩, fun _ => trivial⟩
            refine ⟨by exact hI17, ?_⟩
            try simp only [Act.put, List.setIfInBounds_toArray, List.set_cons_zero, List.set_cons_succ]
            refine runOne (i := 10) (by kernel_rfl) rfl rfl ?_
            go_simp
            refine (pseal_any secret hs hsB way x.session x.epoch x.count hx.session hx.epoch hx.count plain po co w17 (hR.below hB17 hRlt.out) (hC.below hB17 hClt.out) hSo17).mono ?_
            intro e w18 hP
            unfold PSealPost at hP
            rw [if_pos HSE.out, HSX.out, ← HCC.out] at hP
            obtain ⟨⟨vs, rfl, hWs⟩, hb18⟩ := hP
            obtain ⟨gs, cz, rfl, hgs, hcz, hSs18⟩ := hWs.sl
            have hX18 := below_blk hb18 hX17
            have hS18 := below_blk hb18 hS17
            have hZ18 := below_blk hb18 hZ17
            have hB18 := hB17.trans (hb18.mono hB17.size)
            have hgs2 := Lib.hid hgs
            have hZlt := Lib.hid (Array.getElem?_eq_some_iff.1 hZ17).1
            have hI18 : S1 (fun w' => w'.heap[X]? = some (.cells (pktC x (.slice pp m.length cp)) 27 (0, 0)) ∧ w'.heap[S]? = some (.cells (ints .u8 secret) 31 (0, 0))) (fun _ => True) [true] w18 := ⟨⟨hX18, hS18⟩, fun _ => trivial⟩
            refine ⟨by exact hI18, ?_⟩
            try simp only [Act.put, List.setIfInBounds_toArray, List.set_cons_zero, List.set_cons_succ]
            refine takeA (i := 11) (v := ?_) rfl (by kernel_rfl) (fun _ _ _ h => h) rfl (by exact hI18) (fun wx hx => ?_) ?_
            rotate_left
            · go_simp; try with_reducible rfl
            try simp only [Act.put, List.setIfInBounds_toArray, List.set_cons_zero, List.set_cons_succ]
            refine takeA (i := 12) (v := ?_) rfl (by kernel_rfl) (fun _ _ _ h => h) rfl (by exact hI18) (fun wx hx => ?_) ?_
            rotate_left
            · go_simp; try with_reducible rfl
            try simp only [Act.put, List.setIfInBounds_toArray, List.set_cons_zero, List.set_cons_succ]
            refine takeA (i := 13) (v := ?_) rfl (by kernel_rfl) (fun _ _ _ h => h) rfl (by exact hI18) (fun wx hx => ?_) ?_
            rotate_left
            · go_simp; try with_reducible rfl
            try simp only [Act.put, List.setIfInBounds_toArray, List.set_cons_zero, List.set_cons_succ]
            refine runOne (i := 15) (by kernel_rfl) rfl rfl ?_
            refine wp_st_row (ty := 27) (new := pktC x (.slice (some ⟨gs, 0, none⟩) C.length cz)) rfl rfl rfl (by exact hZ18) (n := 38) (by kernel_rfl) (pktC_size _ _) (pktC_size _ _) (pktC_one _ _ rfl) ?_
            intro w17 hZ17 hk17
            have hX17 := hk17.heap hX18 hXZ
            have hS17 := hk17.heap hS18 hSZ
            have hB17 := hk17.below hB18 hB18.size (fun k e => by subst e; exact hZge)
            have hSs17 := hSs18.kep hk17 (fun a ha _ e => by cases ha; simp only at e; subst e; have h1 := hgs2.out; have h2 := hZlt.out; omega)
            refine ⟨by exact (show S1 (fun w' => w'.heap[X]? = some (.cells (pktC x (.slice pp m.length cp)) 27 (0, 0)) ∧ w'.heap[S]? = some (.cells (ints .u8 secret) 31 (0, 0))) (fun _ => True) [true] w17 from ⟨⟨hX17, hS17⟩, fun _ => trivial⟩), ?_⟩
            try simp only [Act.put, List.setIfInBounds_toArray, List.set_cons_zero, List.set_cons_succ]
            refine takeA (i := 16) (v := ?_) rfl (by kernel_rfl) (fun _ _ _ h => h) rfl (by exact (show S1 (fun w' => w'.heap[X]? = some (.cells (pktC x (.slice pp m.length cp)) 27 (0, 0)) ∧ w'.heap[S]? = some (.cells (ints .u8 secret) 31 (0, 0))) (fun _ => True) [true] w17 from ⟨⟨hX17, hS17⟩, fun _ => trivial⟩)) (fun wx hx => ?_) ?_
            rotate_left
            · go_simp; try with_reducible rfl
            try simp only [Act.put, List.setIfInBounds_toArray, List.set_cons_zero, List.set_cons_succ]
            refine wpAnyE_done (by kernel_rfl) ?_ _
            exact HQ _ _ ⟨Z, po, co, gs, cz, by simp only [Act.put, List.setIfInBounds_toArray, List.set_cons_zero, List.set_cons_succ], hX17, hS17, hZ17, hB17, hSs17, hcz⟩
        rintro a' w17 ⟨Z, po, co, gs, cz, rfl, hX17, hS17, hZ17, hB17, hSs17, hcz⟩
        try simp only [Act.put, List.setIfInBounds_toArray, List.set_cons_zero, List.set_cons_succ]
        have hop := popen_pseal secret way x.session x.epoch x.count hnB
        rw [HSX.out, ← HCC.out] at hop
        have hkd := popen_kind HSE.out
        rw [HSX.out, ← HCl.out] at hkd
        have HOP := Lib.hid hop
        have HKD := Lib.hid hkd
        have HCK2 := Lib.hid (check3_len HK.out HCK.out (bl' := C.length) (by have := HCl.out; omega) (by have := HCl.out; omega))
        clear hop hkd
        go_wp2_with (first | (refine ld_row rfl (ty := 31) rfl rfl hS17 Tryd.underlying31 rfl (by kernel_rfl) (by rw [size_ints, hs]) ?_) | (refine ld_row rfl (ty := 27) rfl rfl hZ17 Tryd.underlying27 rfl (by kernel_rfl) (pktC_size _ _) ?_) | (go_at_call 10; fail))
        refine (popen_any secret hs hsB way x hx C hCB (by have := HCl.out; omega) (some ⟨gs, 0, none⟩) cz hcz w17 (hR.below hB17 hRlt.out) (hC.below hB17 hClt.out) hSs17).mono ?_
        intro e w18 hP
        unfold POpenPost OpenPost at hP
        rw [if_pos HKD.out, HOP.out.1, if_pos rfl, HOP.out.2] at hP
        obtain ⟨vy, rfl, hOy, hb18⟩ := hP
        obtain ⟨py, cy, rfl, hSy, _⟩ := hOy.form
        have hX18 := below_blk hb18 hX17
        have hZ18 := below_blk hb18 hZ17
        have hB18 := hB17.trans (hb18.mono hB17.size)
        have hn18 := hn0.below hB18
        clear hX17 hZ17 hS17 hSs17 hB17 hb18 hOy
        go_wp2
        have hal := fun (p : Option Addr) (bl cap : Nat) (w : World) => (along_any x hx p bl cap w).mono (fun e w' h => h.form)
        obtain ⟨LA, hLA⟩ : ∃ L, L = alongS x := ⟨_, rfl⟩
        rw [← hLA] at hal
        have HAL := Lib.hid hal
        clear hal hLA
        refine wp_region_E [41] (S1 (fun w' => w'.heap[X]? = some (.cells (pktC x (.slice pp m.length cp)) 27 (0, 0)) ∧ w'.heap[Z]? = some (.cells (pktC x (.slice (some ⟨gs, 0, none⟩) C.length cz)) 27 (0, 0)) ∧ SL .u8 w' py plain ∧ SL .u8 w' np plain) (fun _ => True)) (by kernel_rfl) ?_
        have hX19 : w18.drew.heap[X]? = _ := hX18
        have hZ19 : w18.drew.heap[Z]? = _ := hZ18
        have hSy19 : SL .u8 w18.drew py plain := hSy
        have hn19 : SL .u8 w18.drew np plain := hn18
        have hB19 : Below w.heap.size w w18.drew := hB18.drew
        generalize w18.drew = w19 at *
        have hI0 : S1 (fun w' => w'.heap[X]? = some (.cells (pktC x (.slice pp m.length cp)) 27 (0, 0)) ∧ w'.heap[Z]? = some (.cells (pktC x (.slice (some ⟨gs, 0, none⟩) C.length cz)) 27 (0, 0)) ∧ SL .u8 w' py plain ∧ SL .u8 w' np plain) (fun _ => True) [false] w19 := ⟨⟨hX19, hZ19, hSy19, hn19⟩, fun _ => trivial⟩
        try simp only [Act.put, List.setIfInBounds_toArray, List.set_cons_zero, List.set_cons_succ]
        refine takeA (i := 0) (v := ?_) rfl (by kernel_rfl) (fun _ _ _ h => h) rfl (by exact hI0) (fun wx hx => ?_) ?_
        rotate_left
        · go_simp; try with_reducible rfl
        try simp only [Act.put, List.setIfInBounds_toArray, List.set_cons_zero, List.set_cons_succ]
        refine takeA (i := 1) (v := ?_) rfl (by kernel_rfl) (fun _ _ _ h => h) rfl (by exact hI0) (fun wx hx => ?_) ?_
        rotate_left
        · go_simp; try with_reducible rfl
        try simp only [Act.put, List.setIfInBounds_toArray, List.set_cons_zero, List.set_cons_succ]
        refine takeA (i := 2) (v := ?_) rfl (by kernel_rfl) (fun _ _ _ h => h) rfl (by exact hI0) (fun wx hx => ?_) ?_
        rotate_left
        · go_simp; try with_reducible rfl
        try simp only [Act.put, List.setIfInBounds_toArray, List.set_cons_zero, List.set_cons_succ]
        refine takeAg (i := 3) (v := ?_) rfl (by kernel_rfl) (fun _ _ _ h => h) rfl (by exact hI0) (fun wx hx => ?_) ?_
        rotate_left
        · go_simp; try with_reducible rfl
        try simp only [Act.put, List.setIfInBounds_toArray, List.set_cons_zero, List.set_cons_succ]
        refine takeAg (i := 4) (v := ?_) rfl (by kernel_rfl) (fun _ _ _ h => h) rfl (by exact hI0) (fun wx hx => ?_) ?_
        rotate_left
        · go_simp; try with_reducible rfl
        try simp only [Act.put, List.setIfInBounds_toArray, List.set_cons_zero, List.set_cons_succ]
        refine takeA (i := 5) (v := ?_) rfl (by kernel_rfl) (fun _ _ _ h => h) rfl (by exact hI0) (fun wx hx => ?_) ?_
        rotate_left
        · go_simp; try with_reducible rfl
        try simp only [Act.put, List.setIfInBounds_toArray, List.set_cons_zero, List.set_cons_succ]
        refine takeA (i := 6) (v := ?_) rfl (by kernel_rfl) (fun _ _ _ h => h) rfl (by exact hI0) (fun wx hx => ?_) ?_
        rotate_left
        · go_simp; try with_reducible rfl
        try simp only [Act.put, List.setIfInBounds_toArray, List.set_cons_zero, List.set_cons_succ]
        refine takeAg (i := 7) (v := ?_) rfl (by kernel_rfl) (fun _ _ _ h => h) rfl (by exact hI0) (fun wx hx => ?_) ?_
        rotate_left
        · go_simp; try with_reducible rfl
        try simp only [Act.put, List.setIfInBounds_toArray, List.set_cons_zero, List.set_cons_succ]
        refine takeAg (i := 8) (v := ?_) rfl (by kernel_rfl) (fun _ _ _ h => h) rfl (by exact hI0) (fun wx hx => ?_) ?_
        rotate_left
        · refine (exec_conv (v := .slice py plain.length cy) rfl rfl (run_str (P := Tryd.prog) (dst := 9) Tryd.underlying25 Tryd.underlying5 Tryd.underlying9 hx.2.2.1 _ _ rfl)).trans ?_; with_reducible rfl
        try simp only [Act.put, List.setIfInBounds_toArray, List.set_cons_zero, List.set_cons_succ]
        refine takeAg (i := 9) (v := ?_) rfl (by kernel_rfl) (fun _ _ _ h => h) rfl (by exact hI0) (fun wx hx => ?_) ?_
        rotate_left
        · go_simp; try with_reducible rfl
        try simp only [Act.put, List.setIfInBounds_toArray, List.set_cons_zero, List.set_cons_succ]
        refine takeAg (i := 10) (v := ?_) rfl (by kernel_rfl) (fun _ _ _ h => h) rfl (by exact hI0) (fun wx hx => ?_) ?_
        rotate_left
        · refine (exec_conv (v := .slice np plain.length nc) rfl rfl (run_str (P := Tryd.prog) (dst := 9) Tryd.underlying25 Tryd.underlying5 Tryd.underlying9 hx.2.2.2 _ _ rfl)).trans ?_; with_reducible rfl
        try simp only [Act.put, List.setIfInBounds_toArray, List.set_cons_zero, List.set_cons_succ]
        refine takeAg (i := 11) (v := ?_) rfl (by kernel_rfl) (fun _ _ _ h => h) rfl (by exact hI0) (fun wx hx => ?_) ?_
        rotate_left
        · go_simp; try with_reducible rfl
        try simp only [Act.put, List.setIfInBounds_toArray, List.set_cons_zero, List.set_cons_succ]
        refine takeA (i := 12) (v := ?_) rfl (by kernel_rfl) (fun _ _ _ h => h) rfl (by exact hI0) (fun wx hx => ?_) ?_
        rotate_left
        · go_simp; try with_reducible rfl
        try simp only [Act.put, List.setIfInBounds_toArray, List.set_cons_zero, List.set_cons_succ]
        refine takeA (i := 13) (v := ?_) rfl (by kernel_rfl) (fun _ _ _ h => h) rfl (by exact hI0) (fun wx hx => ?_) ?_
        rotate_left
        · go_simp; try with_reducible rfl
        try simp only [Act.put, List.setIfInBounds_toArray, List.set_cons_zero, List.set_cons_succ]
        refine takeAg (i := 14) (v := ?_) rfl (by kernel_rfl) (fun _ _ _ h => h) rfl (by exact hI0) (fun wx hx => ?_) ?_
        rotate_left
        · refine (exec_load (p := .pointer (some ⟨Z, 0, none⟩)) rfl rfl (HLD.out _ _ _ hx.2.1 (pktC_size _ _))).trans ?_; with_reducible rfl
        try simp only [Act.put, List.setIfInBounds_toArray, List.set_cons_zero, List.set_cons_succ]
        refine runOneG (i := 15) (by kernel_rfl) rfl (by rfl) ?_
        go_simp
        refine (check_any x hx (some ⟨gs, 0, none⟩) C.length cz (by have := HCl.out; omega) w19).mono ?_
        rintro e w20 ⟨rfl, hb20⟩
        rw [HCK2.out]
        have hX20 := below_blk hb20 hX19
        have hZ20 := below_blk hb20 hZ19
        have hSy20 := hSy19.below hb20
        have hn20 := hn19.below hb20
        have hB20 := hB19.trans (hb20.mono hB19.size)
        have hI1 : S1 (fun w' => w'.heap[X]? = some (.cells (pktC x (.slice pp m.length cp)) 27 (0, 0)) ∧ w'.heap[Z]? = some (.cells (pktC x (.slice (some ⟨gs, 0, none⟩) C.length cz)) 27 (0, 0)) ∧ SL .u8 w' py plain ∧ SL .u8 w' np plain) (fun _ => True) [false] w20 := ⟨⟨hX20, hZ20, hSy20, hn20⟩, fun _ => trivial⟩
        refine ⟨by exact hI1, ?_⟩
        try simp only [Act.put, List.setIfInBounds_toArray, List.set_cons_zero, List.set_cons_succ]
        refine takeAg (i := 16) (v := ?_) rfl (by kernel_rfl) (fun _ _ _ h => h) rfl (by exact hI1) (fun wx hx => ?_) ?_
        rotate_left
        · go_simp; try with_reducible rfl
        try simp only [Act.put, List.setIfInBounds_toArray, List.set_cons_zero, List.set_cons_succ]
        refine takeA (i := 17) (v := ?_) rfl (by kernel_rfl) (fun _ _ _ h => h) rfl (by exact hI1) (fun wx hx => ?_) ?_
        rotate_left
        · go_simp; try with_reducible rfl
        try simp only [Act.put, List.setIfInBounds_toArray, List.set_cons_zero, List.set_cons_succ]
        refine takeA (i := 18) (v := ?_) rfl (by kernel_rfl) (fun _ _ _ h => h) rfl (by exact hI1) (fun wx hx => ?_) ?_
        rotate_left
        · go_simp; try with_reducible rfl
        try simp only [Act.put, List.setIfInBounds_toArray, List.set_cons_zero, List.set_cons_succ]
        refine takeAg (i := 19) (v := ?_) rfl (by kernel_rfl) (fun _ _ _ h => h) rfl (by exact hI1) (fun wx hx => ?_) ?_
        rotate_left
        · go_simp; try with_reducible rfl
        try simp only [Act.put, List.setIfInBounds_toArray, List.set_cons_zero, List.set_cons_succ]
        refine takeAg (i := 20) (v := ?_) rfl (by kernel_rfl) (fun _ _ _ h => h) rfl (by exact hI1) (fun wx hx => ?_) ?_
        rotate_left
        · have hxX := hx.1; have hxZ := hx.2.1; go_simp; try with_reducible rfl
        try simp only [Act.put, List.setIfInBounds_toArray, List.set_cons_zero, List.set_cons_succ]
        refine takeAg (i := 21) (v := ?_) rfl (by kernel_rfl) (fun _ _ _ h => h) rfl (by exact hI1) (fun wx hx => ?_) ?_
        rotate_left
        · go_simp; try with_reducible rfl
        try simp only [Act.put, List.setIfInBounds_toArray, List.set_cons_zero, List.set_cons_succ]
        refine takeAg (i := 22) (v := ?_) rfl (by kernel_rfl) (fun _ _ _ h => h) rfl (by exact hI1) (fun wx hx => ?_) ?_
        rotate_left
        · have hxX := hx.1; have hxZ := hx.2.1; go_simp; try with_reducible rfl
        try simp only [Act.put, List.setIfInBounds_toArray, List.set_cons_zero, List.set_cons_succ]
        refine takeAg (i := 23) (v := ?_) rfl (by kernel_rfl) (fun _ _ _ h => h) rfl (by exact hI1) (fun wx hx => ?_) ?_
        rotate_left
        · go_simp; try with_reducible rfl
        try simp only [Act.put, List.setIfInBounds_toArray, List.set_cons_zero, List.set_cons_succ]
        refine takeA (i := 24) (v := ?_) rfl (by kernel_rfl) (fun _ _ _ h => h) rfl (by exact hI1) (fun wx hx => ?_) ?_
        rotate_left
        · go_simp; try with_reducible rfl
        try simp only [Act.put, List.setIfInBounds_toArray, List.set_cons_zero, List.set_cons_succ]
        refine takeA (i := 25) (v := ?_) rfl (by kernel_rfl) (fun _ _ _ h => h) rfl (by exact hI1) (fun wx hx => ?_) ?_
        rotate_left
        · go_simp; try with_reducible rfl
        try simp only [Act.put, List.setIfInBounds_toArray, List.set_cons_zero, List.set_cons_succ]
        refine takeAg (i := 26) (v := ?_) rfl (by kernel_rfl) (fun _ _ _ h => h) rfl (by exact hI1) (fun wx hx => ?_) ?_
        rotate_left
        · go_simp; try with_reducible rfl
        try simp only [Act.put, List.setIfInBounds_toArray, List.set_cons_zero, List.set_cons_succ]
        refine takeAg (i := 27) (v := ?_) rfl (by kernel_rfl) (fun _ _ _ h => h) rfl (by exact hI1) (fun wx hx => ?_) ?_
        rotate_left
        · have hxX := hx.1; have hxZ := hx.2.1; go_simp; try with_reducible rfl
        try simp only [Act.put, List.setIfInBounds_toArray, List.set_cons_zero, List.set_cons_succ]
        refine takeAg (i := 28) (v := ?_) rfl (by kernel_rfl) (fun _ _ _ h => h) rfl (by exact hI1) (fun wx hx => ?_) ?_
        rotate_left
        · go_simp; try with_reducible rfl
        try simp only [Act.put, List.setIfInBounds_toArray, List.set_cons_zero, List.set_cons_succ]
        refine takeAg (i := 29) (v := ?_) rfl (by kernel_rfl) (fun _ _ _ h => h) rfl (by exact hI1) (fun wx hx => ?_) ?_
        rotate_left
        · have hxX := hx.1; have hxZ := hx.2.1; go_simp; try with_reducible rfl
        try simp only [Act.put, List.setIfInBounds_toArray, List.set_cons_zero, List.set_cons_succ]
        refine takeAg (i := 30) (v := ?_) rfl (by kernel_rfl) (fun _ _ _ h => h) rfl (by exact hI1) (fun wx hx => ?_) ?_
        rotate_left
        · go_simp; try with_reducible rfl
        try simp only [Act.put, List.setIfInBounds_toArray, List.set_cons_zero, List.set_cons_succ]
        refine takeA (i := 31) (v := ?_) rfl (by kernel_rfl) (fun _ _ _ h => h) rfl (by exact hI1) (fun wx hx => ?_) ?_
        rotate_left
        · go_simp; try with_reducible rfl
        try simp only [Act.put, List.setIfInBounds_toArray, List.set_cons_zero, List.set_cons_succ]
        refine takeA (i := 32) (v := ?_) rfl (by kernel_rfl) (fun _ _ _ h => h) rfl (by exact hI1) (fun wx hx => ?_) ?_
        rotate_left
        · go_simp; try with_reducible rfl
        try simp only [Act.put, List.setIfInBounds_toArray, List.set_cons_zero, List.set_cons_succ]
        refine takeAg (i := 33) (v := ?_) rfl (by kernel_rfl) (fun _ _ _ h => h) rfl (by exact hI1) (fun wx hx => ?_) ?_
        rotate_left
        · go_simp; try with_reducible rfl
        try simp only [Act.put, List.setIfInBounds_toArray, List.set_cons_zero, List.set_cons_succ]
        refine takeAg (i := 34) (v := ?_) rfl (by kernel_rfl) (fun _ _ _ h => h) rfl (by exact hI1) (fun wx hx => ?_) ?_
        rotate_left
        · have hxX := hx.1; have hxZ := hx.2.1; go_simp; try with_reducible rfl
        try simp only [Act.put, List.setIfInBounds_toArray, List.set_cons_zero, List.set_cons_succ]
        refine takeAg (i := 35) (v := ?_) rfl (by kernel_rfl) (fun _ _ _ h => h) rfl (by exact hI1) (fun wx hx => ?_) ?_
        rotate_left
        · go_simp; try with_reducible rfl
        try simp only [Act.put, List.setIfInBounds_toArray, List.set_cons_zero, List.set_cons_succ]
        refine takeAg (i := 36) (v := ?_) rfl (by kernel_rfl) (fun _ _ _ h => h) rfl (by exact hI1) (fun wx hx => ?_) ?_
        rotate_left
        · have hxX := hx.1; have hxZ := hx.2.1; go_simp; try with_reducible rfl
        try simp only [Act.put, List.setIfInBounds_toArray, List.set_cons_zero, List.set_cons_succ]
        refine takeAg (i := 37) (v := ?_) rfl (by kernel_rfl) (fun _ _ _ h => h) rfl (by exact hI1) (fun wx hx => ?_) ?_
        rotate_left
        · go_simp; try with_reducible rfl
        try simp only [Act.put, List.setIfInBounds_toArray, List.set_cons_zero, List.set_cons_succ]
        refine takeA (i := 38) (v := ?_) rfl (by kernel_rfl) (fun _ _ _ h => h) rfl (by exact hI1) (fun wx hx => ?_) ?_
        rotate_left
        · go_simp; try with_reducible rfl
        try simp only [Act.put, List.setIfInBounds_toArray, List.set_cons_zero, List.set_cons_succ]
        refine takeA (i := 39) (v := ?_) rfl (by kernel_rfl) (fun _ _ _ h => h) rfl (by exact hI1) (fun wx hx => ?_) ?_
        rotate_left
        · go_simp; try with_reducible rfl
        try simp only [Act.put, List.setIfInBounds_toArray, List.set_cons_zero, List.set_cons_succ]
        refine takeAg (i := 40) (v := ?_) rfl (by kernel_rfl) (fun _ _ _ h => h) rfl (by exact hI1) (fun wx hx => ?_) ?_
        rotate_left
        · refine (exec_load (p := .pointer (some ⟨Z, 0, none⟩)) rfl rfl (HLD.out _ _ _ hx.2.1 (pktC_size _ _))).trans ?_; with_reducible rfl
        try simp only [Act.put, List.setIfInBounds_toArray, List.set_cons_zero, List.set_cons_succ]
        refine takeAg (i := 43) (v := ?_) rfl (by kernel_rfl) (fun _ _ _ h => h) rfl (by exact hI1) (fun wx hx => ?_) ?_
        rotate_left
        · refine (exec_load (p := .pointer (some ⟨X, 0, none⟩)) rfl rfl (HLD.out _ _ _ hx.1 (pktC_size _ _))).trans ?_; with_reducible rfl
        try simp only [Act.put, List.setIfInBounds_toArray, List.set_cons_zero, List.set_cons_succ]
        refine runOneG (i := 41) (by kernel_rfl) rfl (by rfl) ?_
        go_simp
        refine (HAL.out (some ⟨gs, 0, none⟩) C.length cz w20).mono ?_
        rintro e w21 ⟨pa, ca, rfl, hSa21, hb21⟩
        have hX21 := below_blk hb21 hX20
        have hZ21 := below_blk hb21 hZ20
        have hSy21 := hSy20.below hb21
        have hn21 := hn20.below hb21
        have hB21 := hB20.trans (hb21.mono hB20.size)
        refine ⟨⟨⟨hX21, hZ21, hSy21, hn21⟩, fun _ => trivial⟩, ?_⟩
        refine strongA (A' := (fun w' => (w'.heap[X]? = some (.cells (pktC x (.slice pp m.length cp)) 27 (0, 0)) ∧ w'.heap[Z]? = some (.cells (pktC x (.slice (some ⟨gs, 0, none⟩) C.length cz)) 27 (0, 0)) ∧ SL .u8 w' py plain ∧ SL .u8 w' np plain) ∧ SL .u8 w' pa LA)) (fun _ h => h.1) ?_
        have hI2 : S1 (fun w' => (w'.heap[X]? = some (.cells (pktC x (.slice pp m.length cp)) 27 (0, 0)) ∧ w'.heap[Z]? = some (.cells (pktC x (.slice (some ⟨gs, 0, none⟩) C.length cz)) 27 (0, 0)) ∧ SL .u8 w' py plain ∧ SL .u8 w' np plain) ∧ SL .u8 w' pa LA) (fun _ => True) [true] w21 := ⟨⟨⟨hX21, hZ21, hSy21, hn21⟩, hSa21⟩, fun _ => trivial⟩
        try simp only [Act.put, List.setIfInBounds_toArray, List.set_cons_zero, List.set_cons_succ]
        refine takeAg (i := 42) (v := ?_) rfl (by kernel_rfl) (fun _ _ _ h => h) rfl (by exact hI2) (fun wx hx => ?_) ?_
        rotate_left
        · refine (exec_conv (v := .slice pa LA.length ca) rfl rfl (run_str (P := Tryd.prog) (dst := 9) Tryd.underlying25 Tryd.underlying5 Tryd.underlying9 hx.2 _ _ rfl)).trans ?_; with_reducible rfl
        try simp only [Act.put, List.setIfInBounds_toArray, List.set_cons_zero, List.set_cons_succ]
        refine runOneG (i := 44) (by kernel_rfl) rfl (by rfl) ?_
        go_simp
        refine (HAL.out pp m.length cp w21).mono ?_
        rintro e w22 ⟨pd, cd, rfl, hSd22, hb22⟩
        have hX22 := below_blk hb22 hX21
        have hZ22 := below_blk hb22 hZ21
        have hSy22 := hSy21.below hb22
        have hn22 := hn21.below hb22
        have hSa22 := hSa21.below hb22
        have hB22 := hB21.trans (hb22.mono hB21.size)
        refine ⟨⟨⟨⟨hX22, hZ22, hSy22, hn22⟩, hSa22⟩, fun _ => trivial⟩, ?_⟩
        refine strongA (A' := (fun w' => ((w'.heap[X]? = some (.cells (pktC x (.slice pp m.length cp)) 27 (0, 0)) ∧ w'.heap[Z]? = some (.cells (pktC x (.slice (some ⟨gs, 0, none⟩) C.length cz)) 27 (0, 0)) ∧ SL .u8 w' py plain ∧ SL .u8 w' np plain) ∧ SL .u8 w' pa LA) ∧ SL .u8 w' pd LA)) (fun _ h => h.1) ?_
        have hI3 : S1 (fun w' => ((w'.heap[X]? = some (.cells (pktC x (.slice pp m.length cp)) 27 (0, 0)) ∧ w'.heap[Z]? = some (.cells (pktC x (.slice (some ⟨gs, 0, none⟩) C.length cz)) 27 (0, 0)) ∧ SL .u8 w' py plain ∧ SL .u8 w' np plain) ∧ SL .u8 w' pa LA) ∧ SL .u8 w' pd LA) (fun _ => True) [true] w22 := ⟨⟨⟨⟨hX22, hZ22, hSy22, hn22⟩, hSa22⟩, hSd22⟩, fun _ => trivial⟩
        try simp only [Act.put, List.setIfInBounds_toArray, List.set_cons_zero, List.set_cons_succ]
        refine takeAg (i := 45) (v := ?_) rfl (by kernel_rfl) (fun _ _ _ h => h) rfl (by exact hI3) (fun wx hx => ?_) ?_
        rotate_left
        · refine (exec_conv (v := .slice pd LA.length cd) rfl rfl (run_str (P := Tryd.prog) (dst := 9) Tryd.underlying25 Tryd.underlying5 Tryd.underlying9 hx.2 _ _ rfl)).trans ?_; with_reducible rfl
        try simp only [Act.put, List.setIfInBounds_toArray, List.set_cons_zero, List.set_cons_succ]
        refine takeAg (i := 46) (v := ?_) rfl (by kernel_rfl) (fun _ _ _ h => h) rfl (by exact hI3) (fun wx hx => ?_) ?_
        rotate_left
        · go_simp; try with_reducible rfl
        try simp only [Act.put, List.setIfInBounds_toArray, List.set_cons_zero, List.set_cons_succ]
        refine takeA (i := 47) (v := ?_) rfl (by kernel_rfl) (fun _ _ _ h => h) rfl (by exact hI3) (fun wx hx => ?_) ?_
        rotate_left
        · go_simp; try with_reducible rfl
        try simp only [Act.put, List.setIfInBounds_toArray, List.set_cons_zero, List.set_cons_succ]
        refine takeA (i := 48) (v := ?_) rfl (by kernel_rfl) (fun _ _ _ h => h) rfl (by exact hI3) (fun wx hx => ?_) ?_
        rotate_left
        · go_simp; try with_reducible rfl
        try simp only [Act.put, List.setIfInBounds_toArray, List.set_cons_zero, List.set_cons_succ]
        refine wpAnyE_done (by kernel_rfl) ?_ _
        go_wp2
        go_ret
        exact ⟨rfl, hB22⟩
      · have b2 : (x.kind != 3) = true := bne_iff_ne.2 hk
        clear hk
        refine wp_region_via [10] (S1 (fun w' => w'.heap[X]? = some (.cells (pktC x (.slice pp m.length cp)) 27 (0, 0)) ∧ w'.heap[S]? = some (.cells (ints .u8 secret) 31 (0, 0))) (fun _ => True)) (fun a a' w' => ∃ (Z : Nat) (po : Option Addr) (co : Nat) (x' : Pkt) (v' : Value) (c' : Int), a' = ((((((((((((((((a.put (some 94) (.agg (ints .u8 secret))).put (some 95) (.int .i64 way)).put (some 96) (.pointer (some ⟨X, 2, none⟩))).put (some 97) (.int .u64 x.session)).put (some 98) (.pointer (some ⟨X, 3, none⟩))).put (some 99) (.int .u32 x.epoch)).put (some 100) (.pointer (some ⟨X, 4, none⟩))).put (some 101) (.int .u64 x.count)).put (some 102) (.slice np plain.length nc)).put (some 103) (.slice po plain.length co)).put (some 104) (.tuple #[.agg (pktC x' v'), .int .i64 c'])).put (some 93) (.tuple #[.agg (pktC x' v'), .int .i64 c'])).put (some 105) (.agg (pktC x' v'))).put (some 106) (.int .i64 c')).put (some 18) (.pointer (some ⟨Z, 0, none⟩))).put (some 12) (.int .i64 c')) ∧ w'.heap[X]? = some (.cells (pktC x (.slice pp m.length cp)) 27 (0, 0)) ∧ w'.heap[S]? = some (.cells (ints .u8 secret) 31 (0, 0)) ∧ w'.heap[Z]? = some (.cells (pktC x' v') 27 (0, 0)) ∧ Below w.heap.size w w') (by kernel_rfl) ?_ ?_
        · intro HQ
          have hX15 : w14.drew.heap[X]? = _ := hX14
          have hS15 : w14.drew.heap[S]? = _ := hS14
          have hB15 : Below w.heap.size w w14.drew := hBw14.drew
          generalize w14.drew = w15 at *
          have hI15 : S1 (fun w' => w'.heap[X]? = some (.cells (pktC x (.slice pp m.length cp)) 27 (0, 0)) ∧ w'.heap[S]? = some (.cells (ints .u8 secret) 31 (0, 0))) (fun _ => True) [false] w15 := ⟨⟨hX15, hS15⟩, fun _ => trivial⟩
          try simp only [Act.put, List.setIfInBounds_toArray, List.set_cons_zero, List.set_cons_succ]
          refine takeA (i := 0) (v := ?_) rfl (by kernel_rfl) (fun _ _ _ h => h) rfl (by exact hI15) (fun wx hx => ?_) ?_
          rotate_left
          · refine (exec_load (p := .pointer (some ⟨S, 0, none⟩)) rfl rfl (HLSS.out _ _ hx.2)).trans ?_; with_reducible rfl
          try simp only [Act.put, List.setIfInBounds_toArray, List.set_cons_zero, List.set_cons_succ]
          refine takeA (i := 1) (v := ?_) rfl (by kernel_rfl) (fun _ _ _ h => h) rfl (by exact hI15) (fun wx hx => ?_) ?_
          rotate_left
          · go_simp; try with_reducible rfl
          try simp only [Act.put, List.setIfInBounds_toArray, List.set_cons_zero, List.set_cons_succ]
          refine takeA (i := 2) (v := ?_) rfl (by kernel_rfl) (fun _ _ _ h => h) rfl (by exact hI15) (fun wx hx => ?_) ?_
          rotate_left
          · go_simp; try with_reducible rfl
          try simp only [Act.put, List.setIfInBounds_toArray, List.set_cons_zero, List.set_cons_succ]
          refine takeA (i := 3) (v := ?_) rfl (by kernel_rfl) (fun _ _ _ h => h) rfl (by exact hI15) (fun wx hx => ?_) ?_
          rotate_left
          · have hxX := hx.1; go_simp; try with_reducible rfl
          try simp only [Act.put, List.setIfInBounds_toArray, List.set_cons_zero, List.set_cons_succ]
          refine takeA (i := 4) (v := ?_) rfl (by kernel_rfl) (fun _ _ _ h => h) rfl (by exact hI15) (fun wx hx => ?_) ?_
          rotate_left
          · go_simp; try with_reducible rfl
          try simp only [Act.put, List.setIfInBounds_toArray, List.set_cons_zero, List.set_cons_succ]
          refine takeA (i := 5) (v := ?_) rfl (by kernel_rfl) (fun _ _ _ h => h) rfl (by exact hI15) (fun wx hx => ?_) ?_
          rotate_left
          · have hxX := hx.1; go_simp; try with_reducible rfl
          try simp only [Act.put, List.setIfInBounds_toArray, List.set_cons_zero, List.set_cons_succ]
          refine takeA (i := 6) (v := ?_) rfl (by kernel_rfl) (fun _ _ _ h => h) rfl (by exact hI15) (fun wx hx => ?_) ?_
          rotate_left
          · go_simp; try with_reducible rfl
          try simp only [Act.put, List.setIfInBounds_toArray, List.set_cons_zero, List.set_cons_succ]
          refine takeA (i := 7) (v := ?_) rfl (by kernel_rfl) (fun _ _ _ h => h) rfl (by exact hI15) (fun wx hx => ?_) ?_
          rotate_left
          · have hxX := hx.1; go_simp; try with_reducible rfl
          try simp only [Act.put, List.setIfInBounds_toArray, List.set_cons_zero, List.set_cons_succ]
          refine takeA (i := 8) (v := ?_) rfl (by kernel_rfl) (fun _ _ _ h => h) rfl (by exact hI15) (fun wx hx => ?_) ?_
          rotate_left
          · go_simp; try with_reducible rfl
          try simp only [Act.put, List.setIfInBounds_toArray, List.set_cons_zero, List.set_cons_succ]
          refine wpAnyE_all (rs := [9, 14]) (by kernel_rfl) (by decide) ?_
          intro ir hir
          rcases (show ir = 9 ∨ ir = 14 by simpa using hir) with rfl | rfl
          · refine wpOp_of rfl rfl ?_
            go_simp
            refine (kown_any plain (by omega) np nc w15 (hn0.below hB15)).mono ?_
            rintro e w16 ⟨vo, rfl, hOo, hb16⟩
            obtain ⟨po, co, rfl, hSo16, hco⟩ := hOo.form
            have hX16 := below_blk hb16 hX15
            have hS16 := below_blk hb16 hS15
            have hB16 := hB15.trans (hb16.mono hB15.size)
            have hI16 : S1 (fun w' => w'.heap[X]? = some (.cells (pktC x (.slice pp m.length cp)) 27 (0, 0)) ∧ w'.heap[S]? = some (.cells (ints .u8 secret) 31 (0, 0))) (fun _ => True) [false] w16 := ⟨⟨hX16, hS16⟩, fun _ => trivial⟩
            refine ⟨by exact hI16, ?_⟩
            try simp only [Act.put, List.setIfInBounds_toArray, List.set_cons_zero, List.set_cons_succ]
            refine wpAnyE_all (rs := [10, 14]) (by kernel_rfl) (by decide) ?_
            intro ir hir
            rcases (show ir = 10 ∨ ir = 14 by simpa using hir) with rfl | rfl
            · refine wpOp_of rfl rfl ?_
              go_simp
              refine (pseal_any secret hs hsB way x.session x.epoch x.count hx.session hx.epoch hx.count plain po co w16 (hR.below hB16 hRlt.out) (hC.below hB16 hClt.out) hSo16).mono ?_
              intro e w17 hP
              obtain ⟨x', v', c', rfl, hv', hb17⟩ := hP.form
              have hX17 := below_blk hb17 hX16
              have hS17 := below_blk hb17 hS16
              have hB17 := hB16.trans (hb17.mono hB16.size)
              have hI17 : S1 (fun w' => w'.heap[X]? = some (.cells (pktC x (.slice pp m.length cp)) 27 (0, 0)) ∧ w'.heap[S]? = some (.cells (ints .u8 secret) 31 (0, 0))) (fun _ => True) [true] w17 := ⟨⟨hX17, hS17⟩, fun _ => trivial⟩
              refine ⟨by exact hI17, ?_⟩
              try simp only [Act.put, List.setIfInBounds_toArray, List.set_cons_zero, List.set_cons_succ]
              refine takeA (i := 11) (v := ?_) rfl (by kernel_rfl) (fun _ _ _ h => h) rfl (by exact hI17) (fun wx hx => ?_) ?_
              rotate_left
              · go_simp; try with_reducible rfl
              try simp only [Act.put, List.setIfInBounds_toArray, List.set_cons_zero, List.set_cons_succ]
              refine takeA (i := 12) (v := ?_) rfl (by kernel_rfl) (fun _ _ _ h => h) rfl (by exact hI17) (fun wx hx => ?_) ?_
              rotate_left
              · go_simp; try with_reducible rfl
              try simp only [Act.put, List.setIfInBounds_toArray, List.set_cons_zero, List.set_cons_succ]
              refine takeA (i := 13) (v := ?_) rfl (by kernel_rfl) (fun _ _ _ h => h) rfl (by exact hI17) (fun wx hx => ?_) ?_
              rotate_left
              · go_simp; try with_reducible rfl
              try simp only [Act.put, List.setIfInBounds_toArray, List.set_cons_zero, List.set_cons_succ]
              refine runOne (i := 14) (by kernel_rfl) rfl rfl ?_
              refine wp_al (T := 27) (cs := pktC pkt0 (.slice none 0 0)) rfl (by kernel_rfl) ?_
              intro w18 Z hZ18 hb18 hzZ hzZ'
              have hX18 := below_blk hb18 hX17
              have hS18 := below_blk hb18 hS17
              have hB18 := hB17.trans (hb18.mono hB17.size)
              have hXZ : X ≠ Z := fun e => by have := (Array.getElem?_eq_some_iff.1 hX17).1; omega
              have hSZ : S ≠ Z := fun e => by have := (Array.getElem?_eq_some_iff.1 hS17).1; omega
              have hZge : w.heap.size ≤ Z := by have := hB17.size; omega
              have hZs := Lib.hid hzZ
              have hI18 : S1 (fun w' => w'.heap[X]? = some (.cells (pktC x (.slice pp m.length cp)) 27 (0, 0)) ∧ w'.heap[S]? = some (.cells (ints .u8 secret) 31 (0, 0))) (fun _ => True) [true] w18 := ⟨⟨hX18, hS18⟩, fun _ => trivial⟩
              refine ⟨by exact hI18, ?_⟩
              try simp only [Act.put, List.setIfInBounds_toArray, List.set_cons_zero, List.set_cons_succ]
              refine runOne (i := 15) (by kernel_rfl) rfl rfl ?_
              refine wp_st_row (ty := 27) (new := pktC x' v') rfl rfl rfl (by exact hZ18) (n := 38) (by kernel_rfl) (pktC_size _ _) (pktC_size _ _) (pktC_one _ _ hv') ?_
              intro w17 hZ17 hk17
              have hX17 := hk17.heap hX18 hXZ
              have hS17 := hk17.heap hS18 hSZ
              have hB17 := hk17.below hB18 hB18.size (fun k e => by subst e; exact hZge)
              refine ⟨by exact (show S1 (fun w' => w'.heap[X]? = some (.cells (pktC x (.slice pp m.length cp)) 27 (0, 0)) ∧ w'.heap[S]? = some (.cells (ints .u8 secret) 31 (0, 0))) (fun _ => True) [true] w17 from ⟨⟨hX17, hS17⟩, fun _ => trivial⟩), ?_⟩
              try simp only [Act.put, List.setIfInBounds_toArray, List.set_cons_zero, List.set_cons_succ]
              refine takeA (i := 16) (v := ?_) rfl (by kernel_rfl) (fun _ _ _ h => h) rfl (by exact (show S1 (fun w' => w'.heap[X]? = some (.cells (pktC x (.slice pp m.length cp)) 27 (0, 0)) ∧ w'.heap[S]? = some (.cells (ints .u8 secret) 31 (0, 0))) (fun _ => True) [true] w17 from ⟨⟨hX17, hS17⟩, fun _ => trivial⟩)) (fun wx hx => ?_) ?_
              rotate_left
              · go_simp; try with_reducible rfl
              try simp only [Act.put, List.setIfInBounds_toArray, List.set_cons_zero, List.set_cons_succ]
              refine wpAnyE_done (by kernel_rfl) ?_ _
              exact HQ _ _ ⟨Z, po, co, x', v', c', by simp only [Act.put, List.setIfInBounds_toArray, List.set_cons_zero, List.set_cons_succ], hX17, hS17, hZ17, hB17⟩
            · refine wpOp_of rfl rfl ?_
              refine wp_al (T := 27) (cs := pktC pkt0 (.slice none 0 0)) rfl (by kernel_rfl) ?_
              intro w17 Z hZ17 hb17 hzZ hzZ'
              have hX17 := below_blk hb17 hX16
              have hS17 := below_blk hb17 hS16
              have hSo17 := hSo16.below hb17
              have hB17 := hB16.trans (hb17.mono hB16.size)
              have hXZ : X ≠ Z := fun e => by have := (Array.getElem?_eq_some_iff.1 hX16).1; omega
              have hSZ : S ≠ Z := fun e => by have := (Array.getElem?_eq_some_iff.1 hS16).1; omega
              have hZge : w.heap.size ≤ Z := by have := hB16.size; omega
              have hZs := Lib.hid hzZ
              have hI17 : S1 (fun w' => w'.heap[X]? = some (.cells (pktC x (.slice pp m.length cp)) 27 (0, 0)) ∧ w'.heap[S]? = some (.cells (ints .u8 secret) 31 (0, 0))) (fun _ => True) [false] w17 := ⟨⟨hX17, hS17⟩, fun _ => trivial⟩
              refine ⟨by exact hI17, ?_⟩
              try simp only [Act.put, List.setIfInBounds_toArray, List.set_cons_zero, List.set_cons_succ]
              refine runOne (i := 10) (by kernel_rfl) rfl rfl ?_
              go_simp
              refine (pseal_any secret hs hsB way x.session x.epoch x.count hx.session hx.epoch hx.count plain po co w17 (hR.below hB17 hRlt.out) (hC.below hB17 hClt.out) hSo17).mono ?_
              intro e w18 hP
              obtain ⟨x', v', c', rfl, hv', hb18⟩ := hP.form
              have hX18 := below_blk hb18 hX17
              have hS18 := below_blk hb18 hS17
              have hZ18 := below_blk hb18 hZ17
              have hB18 := hB17.trans (hb18.mono hB17.size)
              have hI18 : S1 (fun w' => w'.heap[X]? = some (.cells (pktC x (.slice pp m.length cp)) 27 (0, 0)) ∧ w'.heap[S]? = some (.cells (ints .u8 secret) 31 (0, 0))) (fun _ => True) [true] w18 := ⟨⟨hX18, hS18⟩, fun _ => trivial⟩
              refine ⟨by exact hI18, ?_⟩
              try simp only [Act.put, List.setIfInBounds_toArray, List.set_cons_zero, List.set_cons_succ]
              refine takeA (i := 11) (v := ?_) rfl (by kernel_rfl) (fun _ _ _ h => h) rfl (by exact hI18) (fun wx hx => ?_) ?_
              rotate_left
              · go_simp; try with_reducible rfl
              try simp only [Act.put, List.setIfInBounds_toArray, List.set_cons_zero, List.set_cons_succ]
              refine takeA (i := 12) (v := ?_) rfl (by kernel_rfl) (fun _ _ _ h => h) rfl (by exact hI18) (fun wx hx => ?_) ?_
              rotate_left
              · go_simp; try with_reducible rfl
              try simp only [Act.put, List.setIfInBounds_toArray, List.set_cons_zero, List.set_cons_succ]
              refine takeA (i := 13) (v := ?_) rfl (by kernel_rfl) (fun _ _ _ h => h) rfl (by exact hI18) (fun wx hx => ?_) ?_
              rotate_left
              · go_simp; try with_reducible rfl
              try simp only [Act.put, List.setIfInBounds_toArray, List.set_cons_zero, List.set_cons_succ]
              refine runOne (i := 15) (by kernel_rfl) rfl rfl ?_
              refine wp_st_row (ty := 27) (new := pktC x' v') rfl rfl rfl (by exact hZ18) (n := 38) (by kernel_rfl) (pktC_size _ _) (pktC_size _ _) (pktC_one _ _ hv') ?_
              intro w17 hZ17 hk17
              have hX17 := hk17.heap hX18 hXZ
              have hS17 := hk17.heap hS18 hSZ
              have hB17 := hk17.below hB18 hB18.size (fun k e => by subst e; exact hZge)
              refine ⟨by exact (show S1 (fun w' => w'.heap[X]? = some (.cells (pktC x (.slice pp m.length cp)) 27 (0, 0)) ∧ w'.heap[S]? = some (.cells (ints .u8 secret) 31 (0, 0))) (fun _ => True) [true] w17 from ⟨⟨hX17, hS17⟩, fun _ => trivial⟩), ?_⟩
              try simp only [Act.put, List.setIfInBounds_toArray, List.set_cons_zero, List.set_cons_succ]
              refine takeA (i := 16) (v := ?_) rfl (by kernel_rfl) (fun _ _ _ h => h) rfl (by exact (show S1 (fun w' => w'.heap[X]? = some (.cells (pktC x (.slice pp m.length cp)) 27 (0, 0)) ∧ w'.heap[S]? = some (.cells (ints .u8 secret) 31 (0, 0))) (fun _ => True) [true] w17 from ⟨⟨hX17, hS17⟩, fun _ => trivial⟩)) (fun wx hx => ?_) ?_
              rotate_left
              · go_simp; try with_reducible rfl
              try simp only [Act.put, List.setIfInBounds_toArray, List.set_cons_zero, List.set_cons_succ]
              refine wpAnyE_done (by kernel_rfl) ?_ _
              exact HQ _ _ ⟨Z, po, co, x', v', c', by simp only [Act.put, List.setIfInBounds_toArray, List.set_cons_zero, List.set_cons_succ], hX17, hS17, hZ17, hB17⟩
          · refine wpOp_of rfl rfl ?_
            refine wp_al (T := 27) (cs := pktC pkt0 (.slice none 0 0)) rfl (by kernel_rfl) ?_
            intro w16 Z hZ16 hb16 hzZ hzZ'
            have hX16 := below_blk hb16 hX15
            have hS16 := below_blk hb16 hS15
            have hB16 := hB15.trans (hb16.mono hB15.size)
            have hXZ : X ≠ Z := fun e => by have := (Array.getElem?_eq_some_iff.1 hX15).1; omega
            have hSZ : S ≠ Z := fun e => by have := (Array.getElem?_eq_some_iff.1 hS15).1; omega
            have hZge : w.heap.size ≤ Z := by have := hB15.size; omega
            have hZs := Lib.hid hzZ
            have hI16 : S1 (fun w' => w'.heap[X]? = some (.cells (pktC x (.slice pp m.length cp)) 27 (0, 0)) ∧ w'.heap[S]? = some (.cells (ints .u8 secret) 31 (0, 0))) (fun _ => True) [false] w16 := ⟨⟨hX16, hS16⟩, fun _ => trivial⟩
            refine ⟨by exact hI16, ?_⟩
            try simp only [Act.put, List.setIfInBounds_toArray, List.set_cons_zero, List.set_cons_succ]
            refine runOne (i := 9) (by kernel_rfl) rfl rfl ?_
            go_simp
            refine (kown_any plain (by omega) np nc w16 (hn0.below hB16)).mono ?_
            rintro e w17 ⟨vo, rfl, hOo, hb17⟩
            obtain ⟨po, co, rfl, hSo17, hco⟩ := hOo.form
            have hX17 := below_blk hb17 hX16
            have hS17 := below_blk hb17 hS16
            have hZ17 := below_blk hb17 hZ16
            have hB17 := hB16.trans (hb17.mono hB16.size)
            have hI17 : S1 (fun w' => w'.heap[X]? = some (.cells (pktC x (.slice pp m.length cp)) 27 (0, 0)) ∧ w'.heap[S]? = some (.cells (ints .u8 secret) 31 (0, 0))) (fun _ => True) [false] w17 := ⟨⟨hX17, hS17⟩, fun _ => trivial⟩
            refine ⟨by exact hI17, ?_⟩
            try simp only [Act.put, List.setIfInBounds_toArray, List.set_cons_zero, List.set_cons_succ]
            refine runOne (i := 10) (by kernel_rfl) rfl rfl ?_
            go_simp
            refine (pseal_any secret hs hsB way x.session x.epoch x.count hx.session hx.epoch hx.count plain po co w17 (hR.below hB17 hRlt.out) (hC.below hB17 hClt.out) hSo17).mono ?_
            intro e w18 hP
            obtain ⟨x', v', c', rfl, hv', hb18⟩ := hP.form
            have hX18 := below_blk hb18 hX17
            have hS18 := below_blk hb18 hS17
            have hZ18 := below_blk hb18 hZ17
            have hB18 := hB17.trans (hb18.mono hB17.size)
            have hI18 : S1 (fun w' => w'.heap[X]? = some (.cells (pktC x (.slice pp m.length cp)) 27 (0, 0)) ∧ w'.heap[S]? = some (.cells (ints .u8 secret) 31 (0, 0))) (fun _ => True) [true] w18 := ⟨⟨hX18, hS18⟩, fun _ => trivial⟩
            refine ⟨by exact hI18, ?_⟩
            try simp only [Act.put, List.setIfInBounds_toArray, List.set_cons_zero, List.set_cons_succ]
            refine takeA (i := 11) (v := ?_) rfl (by kernel_rfl) (fun _ _ _ h => h) rfl (by exact hI18) (fun wx hx => ?_) ?_
            rotate_left
            · go_simp; try with_reducible rfl
            try simp only [Act.put, List.setIfInBounds_toArray, List.set_cons_zero, List.set_cons_succ]
            refine takeA (i := 12) (v := ?_) rfl (by kernel_rfl) (fun _ _ _ h => h) rfl (by exact hI18) (fun wx hx => ?_) ?_
            rotate_left
            · go_simp; try with_reducible rfl
            try simp only [Act.put, List.setIfInBounds_toArray, List.set_cons_zero, List.set_cons_succ]
            refine takeA (i := 13) (v := ?_) rfl (by kernel_rfl) (fun _ _ _ h => h) rfl (by exact hI18) (fun wx hx => ?_) ?_
            rotate_left
            · go_simp; try with_reducible rfl
            try simp only [Act.put, List.setIfInBounds_toArray, List.set_cons_zero, List.set_cons_succ]
            refine runOne (i := 15) (by kernel_rfl) rfl rfl ?_
            refine wp_st_row (ty := 27) (new := pktC x' v') rfl rfl rfl (by exact hZ18) (n := 38) (by kernel_rfl) (pktC_size _ _) (pktC_size _ _) (pktC_one _ _ hv') ?_
            intro w17 hZ17 hk17
            have hX17 := hk17.heap hX18 hXZ
            have hS17 := hk17.heap hS18 hSZ
            have hB17 := hk17.below hB18 hB18.size (fun k e => by subst e; exact hZge)
            refine ⟨by exact (show S1 (fun w' => w'.heap[X]? = some (.cells (pktC x (.slice pp m.length cp)) 27 (0, 0)) ∧ w'.heap[S]? = some (.cells (ints .u8 secret) 31 (0, 0))) (fun _ => True) [true] w17 from ⟨⟨hX17, hS17⟩, fun _ => trivial⟩), ?_⟩
            try simp only [Act.put, List.setIfInBounds_toArray, List.set_cons_zero, List.set_cons_succ]
            refine takeA (i := 16) (v := ?_) rfl (by kernel_rfl) (fun _ _ _ h => h) rfl (by exact (show S1 (fun w' => w'.heap[X]? = some (.cells (pktC x (.slice pp m.length cp)) 27 (0, 0)) ∧ w'.heap[S]? = some (.cells (ints .u8 secret) 31 (0, 0))) (fun _ => True) [true] w17 from ⟨⟨hX17, hS17⟩, fun _ => trivial⟩)) (fun wx hx => ?_) ?_
            rotate_left
            · go_simp; try with_reducible rfl
            try simp only [Act.put, List.setIfInBounds_toArray, List.set_cons_zero, List.set_cons_succ]
            refine wpAnyE_done (by kernel_rfl) ?_ _
            exact HQ _ _ ⟨Z, po, co, x', v', c', by simp only [Act.put, List.setIfInBounds_toArray, List.set_cons_zero, List.set_cons_succ], hX17, hS17, hZ17, hB17⟩
        rintro a' w17 ⟨Z, po, co, x', v', c', rfl, hX17, hS17, hZ17, hB17⟩
        try simp only [Act.put, List.setIfInBounds_toArray, List.set_cons_zero, List.set_cons_succ]
        go_wp2
        go_ret
        exact ⟨rfl, hB17⟩
    · have hv8 := hn8 hc0
      subst hv8
      have e1 : (c8 == 0) = false := beq_eq_false_iff_ne.2 hc0
      have e2 : (c8 != 0) = true := bne_iff_ne.2 hc0
      have HC8 := Lib.hid hc8
      clear hc8 hc0 ho8 hn8
      go_wp2_with (first | (refine ld_row rfl (ty := 27) rfl rfl hX8 Tryd.underlying27 rfl (by kernel_rfl) (pktC_size _ _) ?_) | (go_at_call 11; fail))
      refine (check_any x hx pp m.length cp (by omega) w8).mono ?_
      rintro e w9 ⟨rfl, hB9⟩
      have hBw9 := hBw8.trans (hB9.mono hBw8.size)
      rw [← HC8.out]
      go_wp2
      go_ret
      exact ⟨rfl, hBw9⟩
  · rw [if_neg hre] at hP
    subst hP
    go_wp2_with (first | (refine al_abs rfl (T := 27) rfl (cs := pktC pkt0 (.slice none 0 0)) (by kernel_rfl) ?_; intro w5 Q hQw5 halQ hzQ hzQ') | (refine st_row rfl (ty := 27) (cs := pktC pkt0 (.slice none 0 0)) rfl rfl rfl (by exact hQw5) (n := 38) (by kernel_rfl) (pktC_size _ _) (pktC_size _ _) (pktC_one _ _ rfl) ?_; have hQ_wJ := setRow_heap w5 Q _ (pktC pkt0 (.slice none 0 0)) _ _ hQw5; have hkQ : Kep (fun b => b = Q) w4 (w5.setRow Q (pktC pkt0 (.slice none 0 0))) := Kep.setRow (S := fun b => b = Q) (g := Q) (Kep.of_below halQ (fun b hb _ => hb)) (.inl rfl) _; generalize w5.setRow Q (pktC pkt0 (.slice none 0 0)) = wJ at *; clear hQw5 halQ; have hQX : X ≠ Q := (fun e => by have := (Array.getElem?_eq_some_iff.1 hX4).1; omega); have hXJ := hkQ.heap hX4 hQX) | (refine ld_row rfl (ty := 27) rfl rfl hXJ Tryd.underlying27 rfl (by kernel_rfl) (pktC_size _ _) ?_) | (go_at_call 17; fail))
    have hQS : S ≠ Q := fun e => by have := (Array.getElem?_eq_some_iff.1 hS_4).1; omega
    have hSJ := hkQ.heap hS_4 hQS
    have hQge : w.heap.size ≤ Q := by have := hBw4.size; omega
    have hBJ := hkQ.below hBw4 hBw4.size (fun k e => by have := hBw4.size; omega)
    have hQJ := hQ_wJ
    have hqs : (pktC pkt0 (.slice none 0 0)).size = 38 := pktC_size _ _
    generalize pktC pkt0 (.slice none 0 0) = cqs at *
    clear hX4 hS_4 hBw4 hkQ hQ_wJ hre
    have hmJ := hm0.below hBJ
    have hQJlt := Lib.hid (Array.getElem?_eq_some_iff.1 hQJ).1
    have hXJlt := Lib.hid (Array.getElem?_eq_some_iff.1 hXJ).1
    have hSJlt := Lib.hid (Array.getElem?_eq_some_iff.1 hSJ).1
    go_wp2_with (first | (refine ld_row rfl (ty := 27) rfl rfl hXJ Tryd.underlying27 rfl (by kernel_rfl) (pktC_size _ _) ?_) | (go_at_call 17; fail))
    try clear cv1 cv2
    refine (bytes_any x hx m pp cp (by omega) wJ hmJ).mono ?_
    rintro e w8 ⟨v8, c8, rfl, hc8, ho8, hn8, hB8⟩
    have hX8 := below_blk hB8 hXJ
    have hS8 := below_blk hB8 hSJ
    have hQ8 := below_blk hB8 hQJ
    have hBw8 := hBJ.trans (hB8.mono hBJ.size)
    have hB8s := Lib.hid hB8.size
    clear hXJ hSJ hQJ hB8
    by_cases hc0 : c8 = 0
    · subst hc0
      have hck := hc8.symm
      have hO8 := ho8 rfl
      have hrw := readErr_write hx hmB hck
      have hrm := readErr_more hx hmB hck
      have hLB := writeS_bd hx (m := m) (by omega) hmB
      obtain ⟨L, hL⟩ : ∃ L, L = writeS x m := ⟨_, rfl⟩
      rw [← hL] at hO8 hrw hrm hLB hx200
      have hLl : L.length ≤ 1400 := by omega
      obtain ⟨p8, c8, rfl, hS8L, hc8L⟩ := hO8.form
      have HRW := Lib.hid hrw
      have HRM := Lib.hid hrm
      have HCK := Lib.hid hck
      clear hL hrw hrm hck hc8 ho8 hn8
      go_wp2_with (go_at_call 15; fail)
      refine (pread_any L (by omega) hLB p8 c8 w8 hS8L).mono ?_
      intro e w9 hP
      unfold ReadPost at hP
      rw [if_pos HRW.out.1, HRW.out.2] at hP
      obtain ⟨⟨vb, rfl, hOb⟩, hB9⟩ := hP
      dsimp only at hOb
      obtain ⟨pb, cb, rfl, hSb, hcb⟩ := hOb.form
      have hX9 := below_blk hB9 hX8
      have hS9 := below_blk hB9 hS8
      have hQ9 := below_blk hB9 hQ8
      have hO9 := hO8.below hB9
      have hO9lt := hO8.lt
      have hBw9 := hBw8.trans (hB9.mono hBw8.size)
      have hw89 := hB9.size
      have hw8J := hBJ.size
      dsimp only
      obtain ⟨L0, hL0⟩ : ∃ L0, L0 = L ++ [0] := ⟨_, rfl⟩
      have hL0l : L0.length = L.length + 1 := by rw [hL0]; simp
      have hL0B : Bd 256 L0 := by rw [hL0]; exact hLB.append (by decide) (Bd.of_mem (by decide) (by decide))
      have HL0 := Lib.hid hL0
      clear hL0
      have HOB := Lib.hid hOb.lt
      have HO9 := Lib.hid hO9lt
      clear hO9lt hO8 hOb
      have hw8J2 : wJ.heap.size ≤ w9.heap.size := Nat.le_trans hB8s.out hB9.size
      go_wp2_with (first | (refine st_row rfl (ty := 27) (cs := pktC x (.slice pb m.length cb)) rfl rfl rfl (by exact hQ9) (n := 38) (by kernel_rfl) hqs (pktC_size _ _) (pktC_one _ _ rfl) ?_; have hQa := setRow_heap w9 Q _ (pktC x (.slice pb m.length cb)) _ _ hQ9; have hka : Kep (fun b => b = Q) w9 (w9.setRow Q (pktC x (.slice pb m.length cb))) := Kep.setRow (S := fun b => b = Q) (g := Q) (Kep.refl _ _) (.inl rfl) _; generalize w9.setRow Q (pktC x (.slice pb m.length cb)) = wa at *; have hXa := hka.heap hX9 hQX; have hSa := hka.heap hS9 hQS; have hOa := hO9.kep hka (fun g hg e => by have := HO9.out g hg; have := hQJlt.out; omega); have hSba := hSb.kep hka (fun a ha _ e => by subst ha; have := HOB.out _ rfl; have := hQJlt.out; have := hB8s.out; omega); have hBas : RowKit.Hid (wJ.heap.size ≤ wa.heap.size) := (show _ ≤ _ from Nat.le_trans hw8J2 hka.size); have hBa := hka.below hBw9 hBw9.size (fun k e => by subst e; exact hQge); clear hka hX9 hS9 hQ9 hSb hO9 hBw9 hS8L) | (refine ap_ints rfl rfl Tryd.underlying25 (E := 5) (k := .u8) (by' := 1) (by kernel_rfl) (by decide) (base := wJ.heap.size) (v := .slice p8 L.length c8) (l := L) (m := [0]) rfl (by exact hOa.below ((Below.refl _ _).alloc (Nat.le_refl _) _)) rfl rfl (by exact SL.row_all (heap_alloc_at _ _ _ rfl)) (by simp; omega) (by have := hBas.out; simp; omega) ?_; intro v10 w10 hO10 hg10 _) | (go_at_call 15; fail))
      rw [← HL0.out] at hO10
      obtain ⟨p10, c10, rfl, hS10L, _⟩ := hO10.form
      have hkb : Kep (fun g => (Value.slice p8 L.length c8).ownBlock = some g) wa w10 := ((Kep.refl _ wa).alloc _).trans (Kep.of_grown hg10 (fun _ e => e))
      have hX10 := hkb.heap hXa (fun e => by have := HO9.out _ e; have := hXJlt.out; omega)
      have hS10 := hkb.heap hSa (fun e => by have := HO9.out _ e; have := hSJlt.out; omega)
      have hQ10 := hkb.heap hQa (fun e => by have := HO9.out _ e; have := hQJlt.out; omega)
      have hSb10 := hSba.kep hkb (fun a ha _ e => by subst ha; have h1 := HOB.out _ rfl; have h2 := HO9.out _ e; omega)
      have hB10 := hkb.below hBa hBa.size (fun k e => by have := HO9.out k e; omega)
      clear hkb hg10 hO10 hXa hSa hQa hSba hBa hOa
      refine (pread_any L0 (by omega) hL0B p10 c10 w10 hS10L).mono ?_
      intro e w11 hP
      unfold ReadPost at hP
      have hrm2 : readErr L0 = 4 := by rw [HL0.out]; exact HRM.out
      rw [if_neg (by rw [hrm2]; decide)] at hP
      obtain ⟨rfl, hB11⟩ := hP
      have hX11 := below_blk hB11 hX10
      have hS11 := below_blk hB11 hS10
      have hQ11 := below_blk hB11 hQ10
      have hSb11 := hSb10.below hB11
      have hBw11 := hB10.trans (hB11.mono hB10.size)
      clear hX10 hS10 hQ10 hSb10 hB10 hB11 hS10L hrm2
      have hX_lt := (Array.getElem?_eq_some_iff.1 hX11).1
      have hS_lt := (Array.getElem?_eq_some_iff.1 hS11).1
      have hQ_lt := (Array.getElem?_eq_some_iff.1 hQ11).1
      have HXl := Lib.hid hX_lt
      have HSl := Lib.hid hS_lt
      have HQl := Lib.hid hQ_lt
      clear hX_lt hS_lt hQ_lt
      go_wp2_with (first | (refine al_abs rfl (T := 27) rfl (cs := pktC pkt0 (.slice none 0 0)) (by kernel_rfl) ?_; intro w12 Y hYw12 halY hzY hzY') | (refine st_row rfl (ty := 27) (cs := pktC pkt0 (.slice none 0 0)) rfl rfl rfl (by exact hYw12) (n := 38) (by kernel_rfl) (pktC_size _ _) (pktC_size _ _) (pktC_one _ _ rfl) ?_; have hY_w13 := setRow_heap w12 Y _ (pktC pkt0 (.slice none 0 0)) _ _ hYw12; have hkY : Kep (fun b => b = Y) w11 (w12.setRow Y (pktC pkt0 (.slice none 0 0))) := Kep.setRow (S := fun b => b = Y) (g := Y) (Kep.of_below halY (fun b hb _ => hb)) (.inl rfl) _; generalize w12.setRow Y (pktC pkt0 (.slice none 0 0)) = w13 at *; clear hYw12 halY; have hX13 := hkY.heap hX11 (fun e => by have := HXl.out; omega); have hQ13 := hkY.heap hQ11 (fun e => by have := HQl.out; omega); have hlX := Lib.hid (HLD.out _ _ _ hX13 (pktC_size _ _)); have hlQ := Lib.hid (HLD.out _ _ _ hQ13 (pktC_size _ _))) | (refine ld_g rfl (ty := 27) rfl (p := .pointer (some ⟨X, 0, none⟩)) rfl hlX.out ?_) | (refine ld_g rfl (ty := 27) rfl (p := .pointer (some ⟨Q, 0, none⟩)) rfl hlQ.out ?_) | (go_at_call 18; fail))
      have hS13 := hkY.heap hS11 (fun e => by have := HSl.out; omega)
      have hB13 := hkY.below hBw11 hBw11.size (fun k e => by have := hBw11.size; omega)
      have hSb13 := hSb11.kep hkY (fun a ha hn e => by have := hSb11.lt hn a ha; omega)
      refine (kpacket_same x hx m pp pb cp cb w13 (hm0.below hB13) hSb13).mono ?_
      rintro e w14 ⟨rfl, hB14⟩
      have hX14 := below_blk hB14 hX13
      have hS14 := below_blk hB14 hS13
      have hBw14 := hB13.trans (hB14.mono hB13.size)
      clear hX13 hQ13 hS13 hB13 hSb13 hB14 hkY hX11 hS11 hQ11 hSb11 hBw11 hlX hlQ hY_w13
      go_wp2
      by_cases hk : x.kind = 3
      · have b2 : (x.kind != 3) = false := by rw [hk]; rfl
        have HK := Lib.hid hk
        have HSX := Lib.hid (sealX_of hk HCK.out)
        have HSE := Lib.hid (psealErr_of (pl := plain.length) hk HCK.out (by omega))
        clear hk
        obtain ⟨C, hCC⟩ : ∃ C, C = psealS secret way x.session x.epoch x.count plain := ⟨_, rfl⟩
        have hCl : C.length = plain.length + 16 := by rw [hCC, psealS_len]
        have hCB : Bd 256 C := by rw [hCC]; exact psealS_bd _ _ _ _ _ _
        have HCC := Lib.hid hCC
        have HCl := Lib.hid hCl
        clear hCC hCl
        refine wp_region_via [10] (S1 (fun w' => w'.heap[X]? = some (.cells (pktC x (.slice pp m.length cp)) 27 (0, 0)) ∧ w'.heap[S]? = some (.cells (ints .u8 secret) 31 (0, 0))) (fun _ => True)) (fun a a' w' => ∃ (Z : Nat) (po : Option Addr) (co : Nat) (gs cz : Nat), a' = ((((((((((((((((a.put (some 94) (.agg (ints .u8 secret))).put (some 95) (.int .i64 way)).put (some 96) (.pointer (some ⟨X, 2, none⟩))).put (some 97) (.int .u64 x.session)).put (some 98) (.pointer (some ⟨X, 3, none⟩))).put (some 99) (.int .u32 x.epoch)).put (some 100) (.pointer (some ⟨X, 4, none⟩))).put (some 101) (.int .u64 x.count)).put (some 102) (.slice np plain.length nc)).put (some 103) (.slice po plain.length co)).put (some 104) (.tuple #[.agg (pktC x (.slice (some ⟨gs, 0, none⟩) C.length cz)), .int .i64 0])).put (some 93) (.tuple #[.agg (pktC x (.slice (some ⟨gs, 0, none⟩) C.length cz)), .int .i64 0])).put (some 105) (.agg (pktC x (.slice (some ⟨gs, 0, none⟩) C.length cz)))).put (some 106) (.int .i64 0)).put (some 18) (.pointer (some ⟨Z, 0, none⟩))).put (some 12) (.int .i64 0)) ∧ w'.heap[X]? = some (.cells (pktC x (.slice pp m.length cp)) 27 (0, 0)) ∧ w'.heap[S]? = some (.cells (ints .u8 secret) 31 (0, 0)) ∧ w'.heap[Z]? = some (.cells (pktC x (.slice (some ⟨gs, 0, none⟩) C.length cz)) 27 (0, 0)) ∧ Below w.heap.size w w' ∧ SL .u8 w' (some ⟨gs, 0, none⟩) C ∧ C.length ≤ cz) (by kernel_rfl) ?_ ?_
        · intro HQ
          have hX15 : w14.drew.heap[X]? = _ := hX14
          have hS15 : w14.drew.heap[S]? = _ := hS14
          have hB15 : Below w.heap.size w w14.drew := hBw14.drew
          generalize w14.drew = w15 at *
          have hI15 : S1 (fun w' => w'.heap[X]? = some (.cells (pktC x (.slice pp m.length cp)) 27 (0, 0)) ∧ w'.heap[S]? = some (.cells (ints .u8 secret) 31 (0, 0))) (fun _ => True) [false] w15 := ⟨⟨hX15, hS15⟩, fun _ => trivial⟩
          try simp only [Act.put, List.setIfInBounds_toArray, List.set_cons_zero, List.set_cons_succ]
          refine takeA (i := 0) (v := ?_) rfl (by kernel_rfl) (fun _ _ _ h => h) rfl (by exact hI15) (fun wx hx => ?_) ?_
          rotate_left
          · refine (exec_load (p := .pointer (some ⟨S, 0, none⟩)) rfl rfl (HLSS.out _ _ hx.2)).trans ?_; with_reducible rfl
          try simp only [Act.put, List.setIfInBounds_toArray, List.set_cons_zero, List.set_cons_succ]
          refine takeA (i := 1) (v := ?_) rfl (by kernel_rfl) (fun _ _ _ h => h) rfl (by exact hI15) (fun wx hx => ?_) ?_
          rotate_left
          · go_simp; try with_reducible rfl
          try simp only [Act.put, List.setIfInBounds_toArray, List.set_cons_zero, List.set_cons_succ]
          refine takeA (i := 2) (v := ?_) rfl (by kernel_rfl) (fun _ _ _ h => h) rfl (by exact hI15) (fun wx hx => ?_) ?_
          rotate_left
          · go_simp; try with_reducible rfl
          try simp only [Act.put, List.setIfInBounds_toArray, List.set_cons_zero, List.set_cons_succ]
          refine takeA (i := 3) (v := ?_) rfl (by kernel_rfl) (fun _ _ _ h => h) rfl (by exact hI15) (fun wx hx => ?_) ?_
          rotate_left
          · have hxX := hx.1; go_simp; try with_reducible rfl
          try simp only [Act.put, List.setIfInBounds_toArray, List.set_cons_zero, List.set_cons_succ]
          refine takeA (i := 4) (v := ?_) rfl (by kernel_rfl) (fun _ _ _ h => h) rfl (by exact hI15) (fun wx hx => ?_) ?_
          rotate_left
          · go_simp; try with_reducible rfl
          try simp only [Act.put, List.setIfInBounds_toArray, List.set_cons_zero, List.set_cons_succ]
          refine takeA (i := 5) (v := ?_) rfl (by kernel_rfl) (fun _ _ _ h => h) rfl (by exact hI15) (fun wx hx => ?_) ?_
          rotate_left
          · have hxX := hx.1; go_simp; try with_reducible rfl
          try simp only [Act.put, List.setIfInBounds_toArray, List.set_cons_zero, List.set_cons_succ]
          refine takeA (i := 6) (v := ?_) rfl (by kernel_rfl) (fun _ _ _ h => h) rfl (by exact hI15) (fun wx hx => ?_) ?_
          rotate_left
          · go_simp; try with_reducible rfl
          try simp only [Act.put, List.setIfInBounds_toArray, List.set_cons_zero, List.set_cons_succ]
          refine takeA (i := 7) (v := ?_) rfl (by kernel_rfl) (fun _ _ _ h => h) rfl (by exact hI15) (fun wx hx => ?_) ?_
          rotate_left
          · have hxX := hx.1; go_simp; try with_reducible rfl
          try simp only [Act.put, List.setIfInBounds_toArray, List.set_cons_zero, List.set_cons_succ]
          refine takeA (i := 8) (v := ?_) rfl (by kernel_rfl) (fun _ _ _ h => h) rfl (by exact hI15) (fun wx hx => ?_) ?_
          rotate_left
          · go_simp; try with_reducible rfl
          try simp only [Act.put, List.setIfInBounds_toArray, List.set_cons_zero, List.set_cons_succ]
          refine wpAnyE_all (rs := [9, 14]) (by kernel_rfl) (by decide) ?_
          intro ir hir
          rcases (show ir = 9 ∨ ir = 14 by simpa using hir) with rfl | rfl
          · refine wpOp_of rfl rfl ?_
            go_simp
            refine (kown_any plain (by omega) np nc w15 (hn0.below hB15)).mono ?_
            rintro e w16 ⟨vo, rfl, hOo, hb16⟩
            obtain ⟨po, co, rfl, hSo16, hco⟩ := hOo.form
            have hX16 := below_blk hb16 hX15
            have hS16 := below_blk hb16 hS15
            have hB16 := hB15.trans (hb16.mono hB15.size)
            have hI16 : S1 (fun w' => w'.heap[X]? = some (.cells (pktC x (.slice pp m.length cp)) 27 (0, 0)) ∧ w'.heap[S]? = some (.cells (ints .u8 secret) 31 (0, 0))) (fun _ => True) [false] w16 := ⟨⟨hX16, hS16⟩, fun _ => trivial⟩
            refine ⟨by exact hI16, ?_⟩
            try simp only [Act.put, List.setIfInBounds_toArray, List.set_cons_zero, List.set_cons_succ]
            refine wpAnyE_all (rs := [10, 14]) (by kernel_rfl) (by decide) ?_
            intro ir hir
            rcases (show ir = 10 ∨ ir = 14 by simpa using hir) with rfl | rfl
            · refine wpOp_of rfl rfl ?_
              go_simp
              refine (pseal_any secret hs hsB way x.session x.epoch x.count hx.session hx.epoch hx.count plain po co w16 (hR.below hB16 hRlt.out) (hC.below hB16 hClt.out) hSo16).mono ?_
              intro e w17 hP
              unfold PSealPost at hP
              rw [if_pos HSE.out, HSX.out, ← HCC.out] at hP
              obtain ⟨⟨vs, rfl, hWs⟩, hb17⟩ := hP
              obtain ⟨gs, cz, rfl, hgs, hcz, hSs17⟩ := hWs.sl
              have hX17 := below_blk hb17 hX16
              have hS17 := below_blk hb17 hS16
              have hB17 := hB16.trans (hb17.mono hB16.size)
              have hgs2 := Lib.hid hgs
              have hI17 : S1 (fun w' => w'.heap[X]? = some (.cells (pktC x (.slice pp m.length cp)) 27 (0, 0)) ∧ w'.heap[S]? = some (.cells (ints .u8 secret) 31 (0, 0))) (fun _ => True) [true] w17 := ⟨⟨hX17, hS17⟩, fun _ => trivial⟩
              refine ⟨by exact hI17, ?_⟩
              try simp only [Act.put, List.setIfInBounds_toArray, List.set_cons_zero, List.set_cons_succ]
              refine takeA (i := 11) (v := ?_) rfl (by kernel_rfl) (fun _ _ _ h => h) rfl (by exact hI17) (fun wx hx => ?_) ?_
              rotate_left
              · go_simp; try with_reducible rfl
              try simp only [Act.put, List.setIfInBounds_toArray, List.set_cons_zero, List.set_cons_succ]
              refine takeA (i := 12) (v := ?_) rfl (by kernel_rfl) (fun _ _ _ h => h) rfl (by exact hI17) (fun wx hx => ?_) ?_
              rotate_left
              · go_simp; try with_reducible rfl
              try simp only [Act.put, List.setIfInBounds_toArray, List.set_cons_zero, List.set_cons_succ]
              refine takeA (i := 13) (v := ?_) rfl (by kernel_rfl) (fun _ _ _ h => h) rfl (by exact hI17) (fun wx hx => ?_) ?_
              rotate_left
              · go_simp; try with_reducible rfl
              try simp only [Act.put, List.setIfInBounds_toArray, List.set_cons_zero, List.set_cons_succ]
              have hgl : RowKit.Hid (gs < w17.heap.size) := Lib.hid (hWs.lt)
              refine runOne (i := 14) (by kernel_rfl) rfl rfl ?_
              refine wp_al (T := 27) (cs := pktC pkt0 (.slice none 0 0)) rfl (by kernel_rfl) ?_
              intro w18 Z hZ18 hb18 hzZ hzZ'
              have hX18 := below_blk hb18 hX17
              have hS18 := below_blk hb18 hS17
              have hSs18 := hSs17.below hb18
              have hB18 := hB17.trans (hb18.mono hB17.size)
              have hXZ : X ≠ Z := fun e => by have := (Array.getElem?_eq_some_iff.1 hX17).1; omega
              have hSZ : S ≠ Z := fun e => by have := (Array.getElem?_eq_some_iff.1 hS17).1; omega
              have hZge : w.heap.size ≤ Z := by have := hB17.size; omega
              have hZs := Lib.hid hzZ
              have hI18 : S1 (fun w' => w'.heap[X]? = some (.cells (pktC x (.slice pp m.length cp)) 27 (0, 0)) ∧ w'.heap[S]? = some (.cells (ints .u8 secret) 31 (0, 0))) (fun _ => True) [true] w18 := ⟨⟨hX18, hS18⟩, fun _ => trivial⟩
              refine ⟨by exact hI18, ?_⟩
              try simp only [Act.put, List.setIfInBounds_toArray, List.set_cons_zero, List.set_cons_succ]
              refine runOne (i := 15) (by kernel_rfl) rfl rfl ?_
              refine wp_st_row (ty := 27) (new := pktC x (.slice (some ⟨gs, 0, none⟩) C.length cz)) rfl rfl rfl (by exact hZ18) (n := 38) (by kernel_rfl) (pktC_size _ _) (pktC_size _ _) (pktC_one _ _ rfl) ?_
              intro w17 hZ17 hk17
              have hX17 := hk17.heap hX18 hXZ
              have hS17 := hk17.heap hS18 hSZ
              have hB17 := hk17.below hB18 hB18.size (fun k e => by subst e; exact hZge)
              have hSs17 := hSs18.kep hk17 (fun a ha _ e => by cases ha; simp only at e; subst e; have h1 := hZs.out; have h2 := hgl.out; omega)
              refine ⟨by exact (show S1 (fun w' => w'.heap[X]? = some (.cells (pktC x (.slice pp m.length cp)) 27 (0, 0)) ∧ w'.heap[S]? = some (.cells (ints .u8 secret) 31 (0, 0))) (fun _ => True) [true] w17 from ⟨⟨hX17, hS17⟩, fun _ => trivial⟩), ?_⟩
              try simp only [Act.put, List.setIfInBounds_toArray, List.set_cons_zero, List.set_cons_succ]
              refine takeA (i := 16) (v := ?_) rfl (by kernel_rfl) (fun _ _ _ h => h) rfl (by exact (show S1 (fun w' => w'.heap[X]? = some (.cells (pktC x (.slice pp m.length cp)) 27 (0, 0)) ∧ w'.heap[S]? = some (.cells (ints .u8 secret) 31 (0, 0))) (fun _ => True) [true] w17 from ⟨⟨hX17, hS17⟩, fun _ => trivial⟩)) (fun wx hx => ?_) ?_
              rotate_left
              · go_simp; try with_reducible rfl
              try simp only [Act.put, List.setIfInBounds_toArray, List.set_cons_zero, List.set_cons_succ]
              refine wpAnyE_done (by kernel_rfl) ?_ _
              exact HQ _ _ ⟨Z, po, co, gs, cz, by simp only [Act.put, List.setIfInBounds_toArray, List.set_cons_zero, List.set_cons_succ], hX17, hS17, hZ17, hB17, hSs17, hcz⟩
            · refine wpOp_of rfl rfl ?_
              refine wp_al (T := 27) (cs := pktC pkt0 (.slice none 0 0)) rfl (by kernel_rfl) ?_
              intro w17 Z hZ17 hb17 hzZ hzZ'
              have hX17 := below_blk hb17 hX16
              have hS17 := below_blk hb17 hS16
              have hSo17 := hSo16.below hb17
              have hB17 := hB16.trans (hb17.mono hB16.size)
              have hXZ : X ≠ Z := fun e => by have := (Array.getElem?_eq_some_iff.1 hX16).1; omega
              have hSZ : S ≠ Z := fun e => by have := (Array.getElem?_eq_some_iff.1 hS16).1; omega
              have hZge : w.heap.size ≤ Z := by have := hB16.size; omega
              have hZs := Lib.hid hzZ
              have hI17 : S1 (fun w' => w'.heap[X]? = some (.cells (pktC x (.slice pp m.length cp)) 27 (0, 0)) ∧ w'.heap[S]? = some (.cells (ints .u8 secret) 31 (0, 0))) (fun _ => True) [false] w17 := ⟨⟨hX17, hS17⟩, fun _ => trivial⟩
              refine ⟨by exact hI17, ?_⟩
              try simp only [Act.put, List.setIfInBounds_toArray, List.set_cons_zero, List.set_cons_succ]
              refine runOne (i := 10) (by kernel_rfl) rfl rfl ?_
              go_simp
              refine (pseal_any secret hs hsB way x.session x.epoch x.count hx.session hx.epoch hx.count plain po co w17 (hR.below hB17 hRlt.out) (hC.below hB17 hClt.out) hSo17).mono ?_
              intro e w18 hP
              unfold PSealPost at hP
              rw [if_pos HSE.out, HSX.out, ← HCC.out] at hP
              obtain ⟨⟨vs, rfl, hWs⟩, hb18⟩ := hP
              obtain ⟨gs, cz, rfl, hgs, hcz, hSs18⟩ := hWs.sl
              have hX18 := below_blk hb18 hX17
              have hS18 := below_blk hb18 hS17
              have hZ18 := below_blk hb18 hZ17
              have hB18 := hB17.trans (hb18.mono hB17.size)
              have hgs2 := Lib.hid hgs
              have hZlt := Lib.hid (Array.getElem?_eq_some_iff.1 hZ17).1
              have hI18 : S1 (fun w' => w'.heap[X]? = some (.cells (pktC x (.slice pp m.length cp)) 27 (0, 0)) ∧ w'.heap[S]? = some (.cells (ints .u8 secret) 31 (0, 0))) (fun _ => True) [true] w18 := ⟨⟨hX18, hS18⟩, fun _ => trivial⟩
              refine ⟨by exact hI18, ?_⟩
              try simp only [Act.put, List.setIfInBounds_toArray, List.set_cons_zero, List.set_cons_succ]
              refine takeA (i := 11) (v := ?_) rfl (by kernel_rfl) (fun _ _ _ h => h) rfl (by exact hI18) (fun wx hx => ?_) ?_
              rotate_left
              · go_simp; try with_reducible rfl
              try simp only [Act.put, List.setIfInBounds_toArray, List.set_cons_zero, List.set_cons_succ]
              refine takeA (i := 12) (v := ?_) rfl (by kernel_rfl) (fun _ _ _ h => h) rfl (by exact hI18) (fun wx hx => ?_) ?_
              rotate_left
              · go_simp; try with_reducible rfl
              try simp only [Act.put, List.setIfInBounds_toArray, List.set_cons_zero, List.set_cons_succ]
              refine takeA (i := 13) (v := ?_) rfl (by kernel_rfl) (fun _ _ _ h => h) rfl (by exact hI18) (fun wx hx => ?_) ?_
              rotate_left
              · go_simp; try with_reducible rfl
              try simp only [Act.put, List.setIfInBounds_toArray, List.set_cons_zero, List.set_cons_succ]
              refine runOne (i := 15) (by kernel_rfl) rfl rfl ?_
              refine wp_st_row (ty := 27) (new := pktC x (.slice (some ⟨gs, 0, none⟩) C.length cz)) rfl rfl rfl (by exact hZ18) (n := 38) (by kernel_rfl) (pktC_size _ _) (pktC_size _ _) (pktC_one _ _ rfl) ?_
              intro w17 hZ17 hk17
              have hX17 := hk17.heap hX18 hXZ
              have hS17 := hk17.heap hS18 hSZ
              have hB17 := hk17.below hB18 hB18.size (fun k e => by subst e; exact hZge)
              have hSs17 := hSs18.kep hk17 (fun a ha _ e => by cases ha; simp only at e; subst e; have h1 := hgs2.out; have h2 := hZlt.out; omega)
              refine ⟨by exact (show S1 (fun w' => w'.heap[X]? = some (.cells (pktC x (.slice pp m.length cp)) 27 (0, 0)) ∧ w'.heap[S]? = some (.cells (ints .u8 secret) 31 (0, 0))) (fun _ => True) [true] w17 from ⟨⟨hX17, hS17⟩, fun _ => trivial⟩), ?_⟩
              try simp only [Act.put, List.setIfInBounds_toArray, List.set_cons_zero, List.set_cons_succ]
              refine takeA (i := 16) (v := ?_) rfl (by kernel_rfl) (fun _ _ _ h => h) rfl (by exact (show S1 (fun w' => w'.heap[X]? = some (.cells (pktC x (.slice pp m.length cp)) 27 (0, 0)) ∧ w'.heap[S]? = some (.cells (ints .u8 secret) 31 (0, 0))) (fun _ => True) [true] w17 from ⟨⟨hX17, hS17⟩, fun _ => trivial⟩)) (fun wx hx => ?_) ?_
              rotate_left
              · go_simp; try with_reducible rfl
              try simp only [Act.put, List.setIfInBounds_toArray, List.set_cons_zero, List.set_cons_succ]
              refine wpAnyE_done (by kernel_rfl) ?_ _
              exact HQ _ _ ⟨Z, po, co, gs, cz, by simp only [Act.put, List.setIfInBounds_toArray, List.set_cons_zero, List.set_cons_succ], hX17, hS17, hZ17, hB17, hSs17, hcz⟩
          · refine wpOp_of rfl rfl ?_
            refine wp_al (T := 27) (cs := pktC pkt0 (.slice none 0 0)) rfl (by kernel_rfl) ?_
            intro w16 Z hZ16 hb16 hzZ hzZ'
            have hX16 := below_blk hb16 hX15
            have hS16 := below_blk hb16 hS15
            have hB16 := hB15.trans (hb16.mono hB15.size)
            have hXZ : X ≠ Z := fun e => by have := (Array.getElem?_eq_some_iff.1 hX15).1; omega
            have hSZ : S ≠ Z := fun e => by have := (Array.getElem?_eq_some_iff.1 hS15).1; omega
            have hZge : w.heap.size ≤ Z := by have := hB15.size; omega
            have hZs := Lib.hid hzZ
            have hI16 : S1 (fun w' => w'.heap[X]? = some (.cells (pktC x (.slice pp m.length cp)) 27 (0, 0)) ∧ w'.heap[S]? = some (.cells (ints .u8 secret) 31 (0, 0))) (fun _ => True) [false] w16 := ⟨⟨hX16, hS16⟩, fun _ => trivial⟩
            refine ⟨by exact hI16, ?_⟩
            try simp only [Act.put, List.setIfInBounds_toArray, List.set_cons_zero, List.set_cons_succ]
            refine runOne (i := 9) (by kernel_rfl) rfl rfl ?_
            go_simp
            refine (kown_any plain (by omega) np nc w16 (hn0.below hB16)).mono ?_
            rintro e w17 ⟨vo, rfl, hOo, hb17⟩
            obtain ⟨po, co, rfl, hSo17, hco⟩ := hOo.form
            have hX17 := below_blk hb17 hX16
            have hS17 := below_blk hb17 hS16
            have hZ17 := below_blk hb17 hZ16
            have hB17 := hB16.trans (hb17.mono hB16.size)
            have hI17 : S1 (fun w' => w'.heap[X]? = some (.cells (pktC x (.slice pp m.length cp)) 27 (0, 0)) ∧ w'.heap[S]? = some (.cells (ints .u8 secret) 31 (0, 0))) (fun _ => True) [false] w17 := ⟨⟨hX17, hS17⟩, fun _ => trivial⟩
            refine ⟨by exact hI17, ?_⟩
            try simp only [Act.put, List.setIfInBounds_toArray, List.set_cons_zero, List.set_cons_succ]
            refine runOne (i := 10) (by kernel_rfl) rfl rfl ?_
            go_simp
            refine (pseal_any secret hs hsB way x.session x.epoch x.count hx.session hx.epoch hx.count plain po co w17 (hR.below hB17 hRlt.out) (hC.below hB17 hClt.out) hSo17).mono ?_
            intro e w18 hP
            unfold PSealPost at hP
            rw [if_pos HSE.out, HSX.out, ← HCC.out] at hP
            obtain ⟨⟨vs, rfl, hWs⟩, hb18⟩ := hP
            obtain ⟨gs, cz, rfl, hgs, hcz, hSs18⟩ := hWs.sl
            have hX18 := below_blk hb18 hX17
            have hS18 := below_blk hb18 hS17
            have hZ18 := below_blk hb18 hZ17
            have hB18 := hB17.trans (hb18.mono hB17.size)
            have hgs2 := Lib.hid hgs
            have hZlt := Lib.hid (Array.getElem?_eq_some_iff.1 hZ17).1
            have hI18 : S1 (fun w' => w'.heap[X]? = some (.cells (pktC x (.slice pp m.length cp)) 27 (0, 0)) ∧ w'.heap[S]? = some (.cells (ints .u8 secret) 31 (0, 0))) (fun _ => True) [true] w18 := ⟨⟨hX18, hS18⟩, fun _ => trivial⟩
            refine ⟨by exact hI18, ?_⟩
            try simp only [Act.put, List.setIfInBounds_toArray, List.set_cons_zero, List.set_cons_succ]
            refine takeA (i := 11) (v := ?_) rfl (by kernel_rfl) (fun _ _ _ h => h) rfl (by exact hI18) (fun wx hx => ?_) ?_
            rotate_left
            · go_simp; try with_reducible rfl
            try simp only [Act.put, List.setIfInBounds_toArray, List.set_cons_zero, List.set_cons_succ]
            refine takeA (i := 12) (v := ?_) rfl (by kernel_rfl) (fun _ _ _ h => h) rfl (by exact hI18) (fun wx hx => ?_) ?_
            rotate_left
            · go_simp; try with_reducible rfl
            try simp only [Act.put, List.setIfInBounds_toArray, List.set_cons_zero, List.set_cons_succ]
            refine takeA (i := 13) (v := ?_) rfl (by kernel_rfl) (fun _ _ _ h => h) rfl (by exact hI18) (fun wx hx => ?_) ?_
            rotate_left
            · go_simp; try with_reducible rfl
            try simp only [Act.put, List.setIfInBounds_toArray, List.set_cons_zero, List.set_cons_succ]
            refine runOne (i := 15) (by kernel_rfl) rfl rfl ?_
            refine wp_st_row (ty := 27) (new := pktC x (.slice (some ⟨gs, 0, none⟩) C.length cz)) rfl rfl rfl (by exact hZ18) (n := 38) (by kernel_rfl) (pktC_size _ _) (pktC_size _ _) (pktC_one _ _ rfl) ?_
            intro w17 hZ17 hk17
            have hX17 := hk17.heap hX18 hXZ
            have hS17 := hk17.heap hS18 hSZ
            have hB17 := hk17.below hB18 hB18.size (fun k e => by subst e; exact hZge)
            have hSs17 := hSs18.kep hk17 (fun a ha _ e => by cases ha; simp only at e; subst e; have h1 := hgs2.out; have h2 := hZlt.out; omega)
            refine ⟨by exact (show S1 (fun w' => w'.heap[X]? = some (.cells (pktC x (.slice pp m.length cp)) 27 (0, 0)) ∧ w'.heap[S]? = some (.cells (ints .u8 secret) 31 (0, 0))) (fun _ => True) [true] w17 from ⟨⟨hX17, hS17⟩, fun _ => trivial⟩), ?_⟩
            try simp only [Act.put, List.setIfInBounds_toArray, List.set_cons_zero, List.set_cons_succ]
            refine takeA (i := 16) (v := ?_) rfl (by kernel_rfl) (fun _ _ _ h => h) rfl (by exact (show S1 (fun w' => w'.heap[X]? = some (.cells (pktC x (.slice pp m.length cp)) 27 (0, 0)) ∧ w'.heap[S]? = some (.cells (ints .u8 secret) 31 (0, 0))) (fun _ => True) [true] w17 from ⟨⟨hX17, hS17⟩, fun _ => trivial⟩)) (fun wx hx => ?_) ?_
            rotate_left
            · go_simp; try with_reducible rfl
            try simp only [Act.put, List.setIfInBounds_toArray, List.set_cons_zero, List.set_cons_succ]
            refine wpAnyE_done (by kernel_rfl) ?_ _
            exact HQ _ _ ⟨Z, po, co, gs, cz, by simp only [Act.put, List.setIfInBounds_toArray, List.set_cons_zero, List.set_cons_succ], hX17, hS17, hZ17, hB17, hSs17, hcz⟩
        rintro a' w17 ⟨Z, po, co, gs, cz, rfl, hX17, hS17, hZ17, hB17, hSs17, hcz⟩
        try simp only [Act.put, List.setIfInBounds_toArray, List.set_cons_zero, List.set_cons_succ]
        have hop := popen_pseal secret way x.session x.epoch x.count hnB
        rw [HSX.out, ← HCC.out] at hop
        have hkd := popen_kind HSE.out
        rw [HSX.out, ← HCl.out] at hkd
        have HOP := Lib.hid hop
        have HKD := Lib.hid hkd
        have HCK2 := Lib.hid (check3_len HK.out HCK.out (bl' := C.length) (by have := HCl.out; omega) (by have := HCl.out; omega))
        clear hop hkd
        go_wp2_with (first | (refine ld_row rfl (ty := 31) rfl rfl hS17 Tryd.underlying31 rfl (by kernel_rfl) (by rw [size_ints, hs]) ?_) | (refine ld_row rfl (ty := 27) rfl rfl hZ17 Tryd.underlying27 rfl (by kernel_rfl) (pktC_size _ _) ?_) | (go_at_call 10; fail))
        refine (popen_any secret hs hsB way x hx C hCB (by have := HCl.out; omega) (some ⟨gs, 0, none⟩) cz hcz w17 (hR.below hB17 hRlt.out) (hC.below hB17 hClt.out) hSs17).mono ?_
        intro e w18 hP
        unfold POpenPost OpenPost at hP
        rw [if_pos HKD.out, HOP.out.1, if_pos rfl, HOP.out.2] at hP
        obtain ⟨vy, rfl, hOy, hb18⟩ := hP
        obtain ⟨py, cy, rfl, hSy, _⟩ := hOy.form
        have hX18 := below_blk hb18 hX17
        have hZ18 := below_blk hb18 hZ17
        have hB18 := hB17.trans (hb18.mono hB17.size)
        have hn18 := hn0.below hB18
        clear hX17 hZ17 hS17 hSs17 hB17 hb18 hOy
        go_wp2
        have hal := fun (p : Option Addr) (bl cap : Nat) (w : World) => (along_any x hx p bl cap w).mono (fun e w' h => h.form)
        obtain ⟨LA, hLA⟩ : ∃ L, L = alongS x := ⟨_, rfl⟩
        rw [← hLA] at hal
        have HAL := Lib.hid hal
        clear hal hLA
        refine wp_region_E [41] (S1 (fun w' => w'.heap[X]? = some (.cells (pktC x (.slice pp m.length cp)) 27 (0, 0)) ∧ w'.heap[Z]? = some (.cells (pktC x (.slice (some ⟨gs, 0, none⟩) C.length cz)) 27 (0, 0)) ∧ SL .u8 w' py plain ∧ SL .u8 w' np plain) (fun _ => True)) (by kernel_rfl) ?_
        have hX19 : w18.drew.heap[X]? = _ := hX18
        have hZ19 : w18.drew.heap[Z]? = _ := hZ18
        have hSy19 : SL .u8 w18.drew py plain := hSy
        have hn19 : SL .u8 w18.drew np plain := hn18
        have hB19 : Below w.heap.size w w18.drew := hB18.drew
        generalize w18.drew = w19 at *
        have hI0 : S1 (fun w' => w'.heap[X]? = some (.cells (pktC x (.slice pp m.length cp)) 27 (0, 0)) ∧ w'.heap[Z]? = some (.cells (pktC x (.slice (some ⟨gs, 0, none⟩) C.length cz)) 27 (0, 0)) ∧ SL .u8 w' py plain ∧ SL .u8 w' np plain) (fun _ => True) [false] w19 := ⟨⟨hX19, hZ19, hSy19, hn19⟩, fun _ => trivial⟩
        try simp only [Act.put, List.setIfInBounds_toArray, List.set_cons_zero, List.set_cons_succ]
        refine takeA (i := 0) (v := ?_) rfl (by kernel_rfl) (fun _ _ _ h => h) rfl (by exact hI0) (fun wx hx => ?_) ?_
        rotate_left
        · go_simp; try with_reducible rfl
        try simp only [Act.put, List.setIfInBounds_toArray, List.set_cons_zero, List.set_cons_succ]
        refine takeA (i := 1) (v := ?_) rfl (by kernel_rfl) (fun _ _ _ h => h) rfl (by exact hI0) (fun wx hx => ?_) ?_
        rotate_left
        · go_simp; try with_reducible rfl
        try simp only [Act.put, List.setIfInBounds_toArray, List.set_cons_zero, List.set_cons_succ]
        refine takeA (i := 2) (v := ?_) rfl (by kernel_rfl) (fun _ _ _ h => h) rfl (by exact hI0) (fun wx hx => ?_) ?_
        rotate_left
        · go_simp; try with_reducible rfl
        try simp only [Act.put, List.setIfInBounds_toArray, List.set_cons_zero, List.set_cons_succ]
        refine takeAg (i := 3) (v := ?_) rfl (by kernel_rfl) (fun _ _ _ h => h) rfl (by exact hI0) (fun wx hx => ?_) ?_
        rotate_left
        · go_simp; try with_reducible rfl
        try simp only [Act.put, List.setIfInBounds_toArray, List.set_cons_zero, List.set_cons_succ]
        refine takeAg (i := 4) (v := ?_) rfl (by kernel_rfl) (fun _ _ _ h => h) rfl (by exact hI0) (fun wx hx => ?_) ?_
        rotate_left
        · go_simp; try with_reducible rfl
        try simp only [Act.put, List.setIfInBounds_toArray, List.set_cons_zero, List.set_cons_succ]
        refine takeA (i := 5) (v := ?_) rfl (by kernel_rfl) (fun _ _ _ h => h) rfl (by exact hI0) (fun wx hx => ?_) ?_
        rotate_left
        · go_simp; try with_reducible rfl
        try simp only [Act.put, List.setIfInBounds_toArray, List.set_cons_zero, List.set_cons_succ]
        refine takeA (i := 6) (v := ?_) rfl (by kernel_rfl) (fun _ _ _ h => h) rfl (by exact hI0) (fun wx hx => ?_) ?_
        rotate_left
        · go_simp; try with_reducible rfl
        try simp only [Act.put, List.setIfInBounds_toArray, List.set_cons_zero, List.set_cons_succ]
        refine takeAg (i := 7) (v := ?_) rfl (by kernel_rfl) (fun _ _ _ h => h) rfl (by exact hI0) (fun wx hx => ?_) ?_
        rotate_left
        · go_simp; try with_reducible rfl
        try simp only [Act.put, List.setIfInBounds_toArray, List.set_cons_zero, List.set_cons_succ]
        refine takeAg (i := 8) (v := ?_) rfl (by kernel_rfl) (fun _ _ _ h => h) rfl (by exact hI0) (fun wx hx => ?_) ?_
        rotate_left
        · refine (exec_conv (v := .slice py plain.length cy) rfl rfl (run_str (P := Tryd.prog) (dst := 9) Tryd.underlying25 Tryd.underlying5 Tryd.underlying9 hx.2.2.1 _ _ rfl)).trans ?_; with_reducible rfl
        try simp only [Act.put, List.setIfInBounds_toArray, List.set_cons_zero, List.set_cons_succ]
        refine takeAg (i := 9) (v := ?_) rfl (by kernel_rfl) (fun _ _ _ h => h) rfl (by exact hI0) (fun wx hx => ?_) ?_
        rotate_left
        · go_simp; try with_reducible rfl
        try simp only [Act.put, List.setIfInBounds_toArray, List.set_cons_zero, List.set_cons_succ]
        refine takeAg (i := 10) (v := ?_) rfl (by kernel_rfl) (fun _ _ _ h => h) rfl (by exact hI0) (fun wx hx => ?_) ?_
        rotate_left
        · refine (exec_conv (v := .slice np plain.length nc) rfl rfl (run_str (P := Tryd.prog) (dst := 9) Tryd.underlying25 Tryd.underlying5 Tryd.underlying9 hx.2.2.2 _ _ rfl)).trans ?_; with_reducible rfl
        try simp only [Act.put, List.setIfInBounds_toArray, List.set_cons_zero, List.set_cons_succ]
        refine takeAg (i := 11) (v := ?_) rfl (by kernel_rfl) (fun _ _ _ h => h) rfl (by exact hI0) (fun wx hx => ?_) ?_
        rotate_left
        · go_simp; try with_reducible rfl
        try simp only [Act.put, List.setIfInBounds_toArray, List.set_cons_zero, List.set_cons_succ]
        refine takeA (i := 12) (v := ?_) rfl (by kernel_rfl) (fun _ _ _ h => h) rfl (by exact hI0) (fun wx hx => ?_) ?_
        rotate_left
        · go_simp; try with_reducible rfl
        try simp only [Act.put, List.setIfInBounds_toArray, List.set_cons_zero, List.set_cons_succ]
        refine takeA (i := 13) (v := ?_) rfl (by kernel_rfl) (fun _ _ _ h => h) rfl (by exact hI0) (fun wx hx => ?_) ?_
        rotate_left
        · go_simp; try with_reducible rfl
        try simp only [Act.put, List.setIfInBounds_toArray, List.set_cons_zero, List.set_cons_succ]
        refine takeAg (i := 14) (v := ?_) rfl (by kernel_rfl) (fun _ _ _ h => h) rfl (by exact hI0) (fun wx hx => ?_) ?_
        rotate_left
        · refine (exec_load (p := .pointer (some ⟨Z, 0, none⟩)) rfl rfl (HLD.out _ _ _ hx.2.1 (pktC_size _ _))).trans ?_; with_reducible rfl
        try simp only [Act.put, List.setIfInBounds_toArray, List.set_cons_zero, List.set_cons_succ]
        refine runOneG (i := 15) (by kernel_rfl) rfl (by rfl) ?_
        go_simp
        refine (check_any x hx (some ⟨gs, 0, none⟩) C.length cz (by have := HCl.out; omega) w19).mono ?_
        rintro e w20 ⟨rfl, hb20⟩
        rw [HCK2.out]
        have hX20 := below_blk hb20 hX19
        have hZ20 := below_blk hb20 hZ19
        have hSy20 := hSy19.below hb20
        have hn20 := hn19.below hb20
        have hB20 := hB19.trans (hb20.mono hB19.size)
        have hI1 : S1 (fun w' => w'.heap[X]? = some (.cells (pktC x (.slice pp m.length cp)) 27 (0, 0)) ∧ w'.heap[Z]? = some (.cells (pktC x (.slice (some ⟨gs, 0, none⟩) C.length cz)) 27 (0, 0)) ∧ SL .u8 w' py plain ∧ SL .u8 w' np plain) (fun _ => True) [false] w20 := ⟨⟨hX20, hZ20, hSy20, hn20⟩, fun _ => trivial⟩
        refine ⟨by exact hI1, ?_⟩
        try simp only [Act.put, List.setIfInBounds_toArray, List.set_cons_zero, List.set_cons_succ]
        refine takeAg (i := 16) (v := ?_) rfl (by kernel_rfl) (fun _ _ _ h => h) rfl (by exact hI1) (fun wx hx => ?_) ?_
        rotate_left
        · go_simp; try with_reducible rfl
        try simp only [Act.put, List.setIfInBounds_toArray, List.set_cons_zero, List.set_cons_succ]
        refine takeA (i := 17) (v := ?_) rfl (by kernel_rfl) (fun _ _ _ h => h) rfl (by exact hI1) (fun wx hx => ?_) ?_
        rotate_left
        · go_simp; try with_reducible rfl
        try simp only [Act.put, List.setIfInBounds_toArray, List.set_cons_zero, List.set_cons_succ]
        refine takeA (i := 18) (v := ?_) rfl (by kernel_rfl) (fun _ _ _ h => h) rfl (by exact hI1) (fun wx hx => ?_) ?_
        rotate_left
        · go_simp; try with_reducible rfl
        try simp only [Act.put, List.setIfInBounds_toArray, List.set_cons_zero, List.set_cons_succ]
        refine takeAg (i := 19) (v := ?_) rfl (by kernel_rfl) (fun _ _ _ h => h) rfl (by exact hI1) (fun wx hx => ?_) ?_
        rotate_left
        · go_simp; try with_reducible rfl
        try simp only [Act.put, List.setIfInBounds_toArray, List.set_cons_zero, List.set_cons_succ]
        refine takeAg (i := 20) (v := ?_) rfl (by kernel_rfl) (fun _ _ _ h => h) rfl (by exact hI1) (fun wx hx => ?_) ?_
        rotate_left
        · have hxX := hx.1; have hxZ := hx.2.1; go_simp; try with_reducible rfl
        try simp only [Act.put, List.setIfInBounds_toArray, List.set_cons_zero, List.set_cons_succ]
        refine takeAg (i := 21) (v := ?_) rfl (by kernel_rfl) (fun _ _ _ h => h) rfl (by exact hI1) (fun wx hx => ?_) ?_
        rotate_left
        · go_simp; try with_reducible rfl
        try simp only [Act.put, List.setIfInBounds_toArray, List.set_cons_zero, List.set_cons_succ]
        refine takeAg (i := 22) (v := ?_) rfl (by kernel_rfl) (fun _ _ _ h => h) rfl (by exact hI1) (fun wx hx => ?_) ?_
        rotate_left
        · have hxX := hx.1; have hxZ := hx.2.1; go_simp; try with_reducible rfl
        try simp only [Act.put, List.setIfInBounds_toArray, List.set_cons_zero, List.set_cons_succ]
        refine takeAg (i := 23) (v := ?_) rfl (by kernel_rfl) (fun _ _ _ h => h) rfl (by exact hI1) (fun wx hx => ?_) ?_
        rotate_left
        · go_simp; try with_reducible rfl
        try simp only [Act.put, List.setIfInBounds_toArray, List.set_cons_zero, List.set_cons_succ]
        refine takeA (i := 24) (v := ?_) rfl (by kernel_rfl) (fun _ _ _ h => h) rfl (by exact hI1) (fun wx hx => ?_) ?_
        rotate_left
        · go_simp; try with_reducible rfl
        try simp only [Act.put, List.setIfInBounds_toArray, List.set_cons_zero, List.set_cons_succ]
        refine takeA (i := 25) (v := ?_) rfl (by kernel_rfl) (fun _ _ _ h => h) rfl (by exact hI1) (fun wx hx => ?_) ?_
        rotate_left
        · go_simp; try with_reducible rfl
        try simp only [Act.put, List.setIfInBounds_toArray, List.set_cons_zero, List.set_cons_succ]
        refine takeAg (i := 26) (v := ?_) rfl (by kernel_rfl) (fun _ _ _ h => h) rfl (by exact hI1) (fun wx hx => ?_) ?_
        rotate_left
        · go_simp; try with_reducible rfl
        try simp only [Act.put, List.setIfInBounds_toArray, List.set_cons_zero, List.set_cons_succ]
        refine takeAg (i := 27) (v := ?_) rfl (by kernel_rfl) (fun _ _ _ h => h) rfl (by exact hI1) (fun wx hx => ?_) ?_
        rotate_left
        · have hxX := hx.1; have hxZ := hx.2.1; go_simp; try with_reducible rfl
        try simp only [Act.put, List.setIfInBounds_toArray, List.set_cons_zero, List.set_cons_succ]
        refine takeAg (i := 28) (v := ?_) rfl (by kernel_rfl) (fun _ _ _ h => h) rfl (by exact hI1) (fun wx hx => ?_) ?_
        rotate_left
        · go_simp; try with_reducible rfl
        try simp only [Act.put, List.setIfInBounds_toArray, List.set_cons_zero, List.set_cons_succ]
        refine takeAg (i := 29) (v := ?_) rfl (by kernel_rfl) (fun _ _ _ h => h) rfl (by exact hI1) (fun wx hx => ?_) ?_
        rotate_left
        · have hxX := hx.1; have hxZ := hx.2.1; go_simp; try with_reducible rfl
        try simp only [Act.put, List.setIfInBounds_toArray, List.set_cons_zero, List.set_cons_succ]
        refine takeAg (i := 30) (v := ?_) rfl (by kernel_rfl) (fun _ _ _ h => h) rfl (by exact hI1) (fun wx hx => ?_) ?_
        rotate_left
        · go_simp; try with_reducible rfl
        try simp only [Act.put, List.setIfInBounds_toArray, List.set_cons_zero, List.set_cons_succ]
        refine takeA (i := 31) (v := ?_) rfl (by kernel_rfl) (fun _ _ _ h => h) rfl (by exact hI1) (fun wx hx => ?_) ?_
        rotate_left
        · go_simp; try with_reducible rfl
        try simp only [Act.put, List.setIfInBounds_toArray, List.set_cons_zero, List.set_cons_succ]
        refine takeA (i := 32) (v := ?_) rfl (by kernel_rfl) (fun _ _ _ h => h) rfl (by exact hI1) (fun wx hx => ?_) ?_
        rotate_left
        · go_simp; try with_reducible rfl
        try simp only [Act.put, List.setIfInBounds_toArray, List.set_cons_zero, List.set_cons_succ]
        refine takeAg (i := 33) (v := ?_) rfl (by kernel_rfl) (fun _ _ _ h => h) rfl (by exact hI1) (fun wx hx => ?_) ?_
        rotate_left
        · go_simp; try with_reducible rfl
        try simp only [Act.put, List.setIfInBounds_toArray, List.set_cons_zero, List.set_cons_succ]
        refine takeAg (i := 34) (v := ?_) rfl (by kernel_rfl) (fun _ _ _ h => h) rfl (by exact hI1) (fun wx hx => ?_) ?_
        rotate_left
        · have hxX := hx.1; have hxZ := hx.2.1; go_simp; try with_reducible rfl
        try simp only [Act.put, List.setIfInBounds_toArray, List.set_cons_zero, List.set_cons_succ]
        refine takeAg (i := 35) (v := ?_) rfl (by kernel_rfl) (fun _ _ _ h => h) rfl (by exact hI1) (fun wx hx => ?_) ?_
        rotate_left
        · go_simp; try with_reducible rfl
        try simp only [Act.put, List.setIfInBounds_toArray, List.set_cons_zero, List.set_cons_succ]
        refine takeAg (i := 36) (v := ?_) rfl (by kernel_rfl) (fun _ _ _ h => h) rfl (by exact hI1) (fun wx hx => ?_) ?_
        rotate_left
        · have hxX := hx.1; have hxZ := hx.2.1; go_simp; try with_reducible rfl
        try simp only [Act.put, List.setIfInBounds_toArray, List.set_cons_zero, List.set_cons_succ]
        refine takeAg (i := 37) (v := ?_) rfl (by kernel_rfl) (fun _ _ _ h => h) rfl (by exact hI1) (fun wx hx => ?_) ?_
        rotate_left
        · go_simp; try with_reducible rfl
        try simp only [Act.put, List.setIfInBounds_toArray, List.set_cons_zero, List.set_cons_succ]
        refine takeA (i := 38) (v := ?_) rfl (by kernel_rfl) (fun _ _ _ h => h) rfl (by exact hI1) (fun wx hx => ?_) ?_
        rotate_left
        · go_simp; try with_reducible rfl
        try simp only [Act.put, List.setIfInBounds_toArray, List.set_cons_zero, List.set_cons_succ]
        refine takeA (i := 39) (v := ?_) rfl (by kernel_rfl) (fun _ _ _ h => h) rfl (by exact hI1) (fun wx hx => ?_) ?_
        rotate_left
        · go_simp; try with_reducible rfl
        try simp only [Act.put, List.setIfInBounds_toArray, List.set_cons_zero, List.set_cons_succ]
        refine takeAg (i := 40) (v := ?_) rfl (by kernel_rfl) (fun _ _ _ h => h) rfl (by exact hI1) (fun wx hx => ?_) ?_
        rotate_left
        · refine (exec_load (p := .pointer (some ⟨Z, 0, none⟩)) rfl rfl (HLD.out _ _ _ hx.2.1 (pktC_size _ _))).trans ?_; with_reducible rfl
        try simp only [Act.put, List.setIfInBounds_toArray, List.set_cons_zero, List.set_cons_succ]
        refine takeAg (i := 43) (v := ?_) rfl (by kernel_rfl) (fun _ _ _ h => h) rfl (by exact hI1) (fun wx hx => ?_) ?_
        rotate_left
        · refine (exec_load (p := .pointer (some ⟨X, 0, none⟩)) rfl rfl (HLD.out _ _ _ hx.1 (pktC_size _ _))).trans ?_; with_reducible rfl
        try simp only [Act.put, List.setIfInBounds_toArray, List.set_cons_zero, List.set_cons_succ]
        refine runOneG (i := 41) (by kernel_rfl) rfl (by rfl) ?_
        go_simp
        refine (HAL.out (some ⟨gs, 0, none⟩) C.length cz w20).mono ?_
        rintro e w21 ⟨pa, ca, rfl, hSa21, hb21⟩
        have hX21 := below_blk hb21 hX20
        have hZ21 := below_blk hb21 hZ20
        have hSy21 := hSy20.below hb21
        have hn21 := hn20.below hb21
        have hB21 := hB20.trans (hb21.mono hB20.size)
        refine ⟨⟨⟨hX21, hZ21, hSy21, hn21⟩, fun _ => trivial⟩, ?_⟩
        refine strongA (A' := (fun w' => (w'.heap[X]? = some (.cells (pktC x (.slice pp m.length cp)) 27 (0, 0)) ∧ w'.heap[Z]? = some (.cells (pktC x (.slice (some ⟨gs, 0, none⟩) C.length cz)) 27 (0, 0)) ∧ SL .u8 w' py plain ∧ SL .u8 w' np plain) ∧ SL .u8 w' pa LA)) (fun _ h => h.1) ?_
        have hI2 : S1 (fun w' => (w'.heap[X]? = some (.cells (pktC x (.slice pp m.length cp)) 27 (0, 0)) ∧ w'.heap[Z]? = some (.cells (pktC x (.slice (some ⟨gs, 0, none⟩) C.length cz)) 27 (0, 0)) ∧ SL .u8 w' py plain ∧ SL .u8 w' np plain) ∧ SL .u8 w' pa LA) (fun _ => True) [true] w21 := ⟨⟨⟨hX21, hZ21, hSy21, hn21⟩, hSa21⟩, fun _ => trivial⟩
        try simp only [Act.put, List.setIfInBounds_toArray, List.set_cons_zero, List.set_cons_succ]
        refine takeAg (i := 42) (v := ?_) rfl (by kernel_rfl) (fun _ _ _ h => h) rfl (by exact hI2) (fun wx hx => ?_) ?_
        rotate_left
        · refine (exec_conv (v := .slice pa LA.length ca) rfl rfl (run_str (P := Tryd.prog) (dst := 9) Tryd.underlying25 Tryd.underlying5 Tryd.underlying9 hx.2 _ _ rfl)).trans ?_; with_reducible rfl
        try simp only [Act.put, List.setIfInBounds_toArray, List.set_cons_zero, List.set_cons_succ]
        refine runOneG (i := 44) (by kernel_rfl) rfl (by rfl) ?_
        go_simp
        refine (HAL.out pp m.length cp w21).mono ?_
        rintro e w22 ⟨pd, cd, rfl, hSd22, hb22⟩
        have hX22 := below_blk hb22 hX21
        have hZ22 := below_blk hb22 hZ21
        have hSy22 := hSy21.below hb22
        have hn22 := hn21.below hb22
        have hSa22 := hSa21.below hb22
        have hB22 := hB21.trans (hb22.mono hB21.size)
        refine ⟨⟨⟨⟨hX22, hZ22, hSy22, hn22⟩, hSa22⟩, fun _ => trivial⟩, ?_⟩
        refine strongA (A' := (fun w' => ((w'.heap[X]? = some (.cells (pktC x (.slice pp m.length cp)) 27 (0, 0)) ∧ w'.heap[Z]? = some (.cells (pktC x (.slice (some ⟨gs, 0, none⟩) C.length cz)) 27 (0, 0)) ∧ SL .u8 w' py plain ∧ SL .u8 w' np plain) ∧ SL .u8 w' pa LA) ∧ SL .u8 w' pd LA)) (fun _ h => h.1) ?_
        have hI3 : S1 (fun w' => ((w'.heap[X]? = some (.cells (pktC x (.slice pp m.length cp)) 27 (0, 0)) ∧ w'.heap[Z]? = some (.cells (pktC x (.slice (some ⟨gs, 0, none⟩) C.length cz)) 27 (0, 0)) ∧ SL .u8 w' py plain ∧ SL .u8 w' np plain) ∧ SL .u8 w' pa LA) ∧ SL .u8 w' pd LA) (fun _ => True) [true] w22 := ⟨⟨⟨⟨hX22, hZ22, hSy22, hn22⟩, hSa22⟩, hSd22⟩, fun _ => trivial⟩
        try simp only [Act.put, List.setIfInBounds_toArray, List.set_cons_zero, List.set_cons_succ]
        refine takeAg (i := 45) (v := ?_) rfl (by kernel_rfl) (fun _ _ _ h => h) rfl (by exact hI3) (fun wx hx => ?_) ?_
        rotate_left
        · refine (exec_conv (v := .slice pd LA.length cd) rfl rfl (run_str (P := Tryd.prog) (dst := 9) Tryd.underlying25 Tryd.underlying5 Tryd.underlying9 hx.2 _ _ rfl)).trans ?_; with_reducible rfl
        try simp only [Act.put, List.setIfInBounds_toArray, List.set_cons_zero, List.set_cons_succ]
        refine takeAg (i := 46) (v := ?_) rfl (by kernel_rfl) (fun _ _ _ h => h) rfl (by exact hI3) (fun wx hx => ?_) ?_
        rotate_left
        · go_simp; try with_reducible rfl
        try simp only [Act.put, List.setIfInBounds_toArray, List.set_cons_zero, List.set_cons_succ]
        refine takeA (i := 47) (v := ?_) rfl (by kernel_rfl) (fun _ _ _ h => h) rfl (by exact hI3) (fun wx hx => ?_) ?_
        rotate_left
        · go_simp; try with_reducible rfl
        try simp only [Act.put, List.setIfInBounds_toArray, List.set_cons_zero, List.set_cons_succ]
        refine takeA (i := 48) (v := ?_) rfl (by kernel_rfl) (fun _ _ _ h => h) rfl (by exact hI3) (fun wx hx => ?_) ?_
        rotate_left
        · go_simp; try with_reducible rfl
        try simp only [Act.put, List.setIfInBounds_toArray, List.set_cons_zero, List.set_cons_succ]
        refine wpAnyE_done (by kernel_rfl) ?_ _
        go_wp2
        go_ret
        exact ⟨rfl, hB22⟩
      · have b2 : (x.kind != 3) = true := bne_iff_ne.2 hk
        clear hk
        refine wp_region_via [10] (S1 (fun w' => w'.heap[X]? = some (.cells (pktC x (.slice pp m.length cp)) 27 (0, 0)) ∧ w'.heap[S]? = some (.cells (ints .u8 secret) 31 (0, 0))) (fun _ => True)) (fun a a' w' => ∃ (Z : Nat) (po : Option Addr) (co : Nat) (x' : Pkt) (v' : Value) (c' : Int), a' = ((((((((((((((((a.put (some 94) (.agg (ints .u8 secret))).put (some 95) (.int .i64 way)).put (some 96) (.pointer (some ⟨X, 2, none⟩))).put (some 97) (.int .u64 x.session)).put (some 98) (.pointer (some ⟨X, 3, none⟩))).put (some 99) (.int .u32 x.epoch)).put (some 100) (.pointer (some ⟨X, 4, none⟩))).put (some 101) (.int .u64 x.count)).put (some 102) (.slice np plain.length nc)).put (some 103) (.slice po plain.length co)).put (some 104) (.tuple #[.agg (pktC x' v'), .int .i64 c'])).put (some 93) (.tuple #[.agg (pktC x' v'), .int .i64 c'])).put (some 105) (.agg (pktC x' v'))).put (some 106) (.int .i64 c')).put (some 18) (.pointer (some ⟨Z, 0, none⟩))).put (some 12) (.int .i64 c')) ∧ w'.heap[X]? = some (.cells (pktC x (.slice pp m.length cp)) 27 (0, 0)) ∧ w'.heap[S]? = some (.cells (ints .u8 secret) 31 (0, 0)) ∧ w'.heap[Z]? = some (.cells (pktC x' v') 27 (0, 0)) ∧ Below w.heap.size w w') (by kernel_rfl) ?_ ?_
        · intro HQ
          have hX15 : w14.drew.heap[X]? = _ := hX14
          have hS15 : w14.drew.heap[S]? = _ := hS14
          have hB15 : Below w.heap.size w w14.drew := hBw14.drew
          generalize w14.drew = w15 at *
          have hI15 : S1 (fun w' => w'.heap[X]? = some (.cells (pktC x (.slice pp m.length cp)) 27 (0, 0)) ∧ w'.heap[S]? = some (.cells (ints .u8 secret) 31 (0, 0))) (fun _ => True) [false] w15 := ⟨⟨hX15, hS15⟩, fun _ => trivial⟩
          try simp only [Act.put, List.setIfInBounds_toArray, List.set_cons_zero, List.set_cons_succ]
          refine takeA (i := 0) (v := ?_) rfl (by kernel_rfl) (fun _ _ _ h => h) rfl (by exact hI15) (fun wx hx => ?_) ?_
          rotate_left
          · refine (exec_load (p := .pointer (some ⟨S, 0, none⟩)) rfl rfl (HLSS.out _ _ hx.2)).trans ?_; with_reducible rfl
          try simp only [Act.put, List.setIfInBounds_toArray, List.set_cons_zero, List.set_cons_succ]
          refine takeA (i := 1) (v := ?_) rfl (by kernel_rfl) (fun _ _ _ h => h) rfl (by exact hI15) (fun wx hx => ?_) ?_
          rotate_left
          · go_simp; try with_reducible rfl
          try simp only [Act.put, List.setIfInBounds_toArray, List.set_cons_zero, List.set_cons_succ]
          refine takeA (i := 2) (v := ?_) rfl (by kernel_rfl) (fun _ _ _ h => h) rfl (by exact hI15) (fun wx hx => ?_) ?_
          rotate_left
          · go_simp; try with_reducible rfl
          try simp only [Act.put, List.setIfInBounds_toArray, List.set_cons_zero, List.set_cons_succ]
          refine takeA (i := 3) (v := ?_) rfl (by kernel_rfl) (fun _ _ _ h => h) rfl (by exact hI15) (fun wx hx => ?_) ?_
          rotate_left
          · have hxX := hx.1; go_simp; try with_reducible rfl
          try simp only [Act.put, List.setIfInBounds_toArray, List.set_cons_zero, List.set_cons_succ]
          refine takeA (i := 4) (v := ?_) rfl (by kernel_rfl) (fun _ _ _ h => h) rfl (by exact hI15) (fun wx hx => ?_) ?_
          rotate_left
          · go_simp; try with_reducible rfl
          try simp only [Act.put, List.setIfInBounds_toArray, List.set_cons_zero, List.set_cons_succ]
          refine takeA (i := 5) (v := ?_) rfl (by kernel_rfl) (fun _ _ _ h => h) rfl (by exact hI15) (fun wx hx => ?_) ?_
          rotate_left
          · have hxX := hx.1; go_simp; try with_reducible rfl
          try simp only [Act.put, List.setIfInBounds_toArray, List.set_cons_zero, List.set_cons_succ]
          refine takeA (i := 6) (v := ?_) rfl (by kernel_rfl) (fun _ _ _ h => h) rfl (by exact hI15) (fun wx hx => ?_) ?_
          rotate_left
          · go_simp; try with_reducible rfl
          try simp only [Act.put, List.setIfInBounds_toArray, List.set_cons_zero, List.set_cons_succ]
          refine takeA (i := 7) (v := ?_) rfl (by kernel_rfl) (fun _ _ _ h => h) rfl (by exact hI15) (fun wx hx => ?_) ?_
          rotate_left
          · have hxX := hx.1; go_simp; try with_reducible rfl
          try simp only [Act.put, List.setIfInBounds_toArray, List.set_cons_zero, List.set_cons_succ]
          refine takeA (i := 8) (v := ?_) rfl (by kernel_rfl) (fun _ _ _ h => h) rfl (by exact hI15) (fun wx hx => ?_) ?_
          rotate_left
          · go_simp; try with_reducible rfl
          try simp only [Act.put, List.setIfInBounds_toArray, List.set_cons_zero, List.set_cons_succ]
          refine wpAnyE_all (rs := [9, 14]) (by kernel_rfl) (by decide) ?_
          intro ir hir
          rcases (show ir = 9 ∨ ir = 14 by simpa using hir) with rfl | rfl
          · refine wpOp_of rfl rfl ?_
            go_simp
            refine (kown_any plain (by omega) np nc w15 (hn0.below hB15)).mono ?_
            rintro e w16 ⟨vo, rfl, hOo, hb16⟩
            obtain ⟨po, co, rfl, hSo16, hco⟩ := hOo.form
            have hX16 := below_blk hb16 hX15
            have hS16 := below_blk hb16 hS15
            have hB16 := hB15.trans (hb16.mono hB15.size)
            have hI16 : S1 (fun w' => w'.heap[X]? = some (.cells (pktC x (.slice pp m.length cp)) 27 (0, 0)) ∧ w'.heap[S]? = some (.cells (ints .u8 secret) 31 (0, 0))) (fun _ => True) [false] w16 := ⟨⟨hX16, hS16⟩, fun _ => trivial⟩
            refine ⟨by exact hI16, ?_⟩
            try simp only [Act.put, List.setIfInBounds_toArray, List.set_cons_zero, List.set_cons_succ]
            refine wpAnyE_all (rs := [10, 14]) (by kernel_rfl) (by decide) ?_
            intro ir hir
            rcases (show ir = 10 ∨ ir = 14 by simpa using hir) with rfl | rfl
            · refine wpOp_of rfl rfl ?_
              go_simp
              refine (pseal_any secret hs hsB way x.session x.epoch x.count hx.session hx.epoch hx.count plain po co w16 (hR.below hB16 hRlt.out) (hC.below hB16 hClt.out) hSo16).mono ?_
              intro e w17 hP
              obtain ⟨x', v', c', rfl, hv', hb17⟩ := hP.form
              have hX17 := below_blk hb17 hX16
              have hS17 := below_blk hb17 hS16
              have hB17 := hB16.trans (hb17.mono hB16.size)
              have hI17 : S1 (fun w' => w'.heap[X]? = some (.cells (pktC x (.slice pp m.length cp)) 27 (0, 0)) ∧ w'.heap[S]? = some (.cells (ints .u8 secret) 31 (0, 0))) (fun _ => True) [true] w17 := ⟨⟨hX17, hS17⟩, fun _ => trivial⟩
              refine ⟨by exact hI17, ?_⟩
              try simp only [Act.put, List.setIfInBounds_toArray, List.set_cons_zero, List.set_cons_succ]
              refine takeA (i := 11) (v := ?_) rfl (by kernel_rfl) (fun _ _ _ h => h) rfl (by exact hI17) (fun wx hx => ?_) ?_
              rotate_left
              · go_simp; try with_reducible rfl
              try simp only [Act.put, List.setIfInBounds_toArray, List.set_cons_zero, List.set_cons_succ]
              refine takeA (i := 12) (v := ?_) rfl (by kernel_rfl) (fun _ _ _ h => h) rfl (by exact hI17) (fun wx hx => ?_) ?_
              rotate_left
              · go_simp; try with_reducible rfl
              try simp only [Act.put, List.setIfInBounds_toArray, List.set_cons_zero, List.set_cons_succ]
              refine takeA (i := 13) (v := ?_) rfl (by kernel_rfl) (fun _ _ _ h => h) rfl (by exact hI17) (fun wx hx => ?_) ?_
              rotate_left
              · go_simp; try with_reducible rfl
              try simp only [Act.put, List.setIfInBounds_toArray, List.set_cons_zero, List.set_cons_succ]
              refine runOne (i := 14) (by kernel_rfl) rfl rfl ?_
              refine wp_al (T := 27) (cs := pktC pkt0 (.slice none 0 0)) rfl (by kernel_rfl) ?_
              intro w18 Z hZ18 hb18 hzZ hzZ'
              have hX18 := below_blk hb18 hX17
              have hS18 := below_blk hb18 hS17
              have hB18 := hB17.trans (hb18.mono hB17.size)
              have hXZ : X ≠ Z := fun e => by have := (Array.getElem?_eq_some_iff.1 hX17).1; omega
              have hSZ : S ≠ Z := fun e => by have := (Array.getElem?_eq_some_iff.1 hS17).1; omega
              have hZge : w.heap.size ≤ Z := by have := hB17.size; omega
              have hZs := Lib.hid hzZ
              have hI18 : S1 (fun w' => w'.heap[X]? = some (.cells (pktC x (.slice pp m.length cp)) 27 (0, 0)) ∧ w'.heap[S]? = some (.cells (ints .u8 secret) 31 (0, 0))) (fun _ => True) [true] w18 := ⟨⟨hX18, hS18⟩, fun _ => trivial⟩
              refine ⟨by exact hI18, ?_⟩
              try simp only [Act.put, List.setIfInBounds_toArray, List.set_cons_zero, List.set_cons_succ]
              refine runOne (i := 15) (by kernel_rfl) rfl rfl ?_
              refine wp_st_row (ty := 27) (new := pktC x' v') rfl rfl rfl (by exact hZ18) (n := 38) (by kernel_rfl) (pktC_size _ _) (pktC_size _ _) (pktC_one _ _ hv') ?_
              intro w17 hZ17 hk17
              have hX17 := hk17.heap hX18 hXZ
              have hS17 := hk17.heap hS18 hSZ
              have hB17 := hk17.below hB18 hB18.size (fun k e => by subst e; exact hZge)
              refine ⟨by exact (show S1 (fun w' => w'.heap[X]? = some (.cells (pktC x (.slice pp m.length cp)) 27 (0, 0)) ∧ w'.heap[S]? = some (.cells (ints .u8 secret) 31 (0, 0))) (fun _ => True) [true] w17 from ⟨⟨hX17, hS17⟩, fun _ => trivial⟩), ?_⟩
              try simp only [Act.put, List.setIfInBounds_toArray, List.set_cons_zero, List.set_cons_succ]
              refine takeA (i := 16) (v := ?_) rfl (by kernel_rfl) (fun _ _ _ h => h) rfl (by exact (show S1 (fun w' => w'.heap[X]? = some (.cells (pktC x (.slice pp m.length cp)) 27 (0, 0)) ∧ w'.heap[S]? = some (.cells (ints .u8 secret) 31 (0, 0))) (fun _ => True) [true] w17 from ⟨⟨hX17, hS17⟩, fun _ => trivial⟩)) (fun wx hx => ?_) ?_
              rotate_left
              · go_simp; try with_reducible rfl
              try simp only [Act.put, List.setIfInBounds_toArray, List.set_cons_zero, List.set_cons_succ]
              refine wpAnyE_done (by kernel_rfl) ?_ _
              exact HQ _ _ ⟨Z, po, co, x', v', c', by simp only [Act.put, List.setIfInBounds_toArray, List.set_cons_zero, List.set_cons_succ], hX17, hS17, hZ17, hB17⟩
            · refine wpOp_of rfl rfl ?_
              refine wp_al (T := 27) (cs := pktC pkt0 (.slice none 0 0)) rfl (by kernel_rfl) ?_
              intro w17 Z hZ17 hb17 hzZ hzZ'
              have hX17 := below_blk hb17 hX16
              have hS17 := below_blk hb17 hS16
              have hSo17 := hSo16.below hb17
              have hB17 := hB16.trans (hb17.mono hB16.size)
              have hXZ : X ≠ Z := fun e => by have := (Array.getElem?_eq_some_iff.1 hX16).1; omega
              have hSZ : S ≠ Z := fun e => by have := (Array.getElem?_eq_some_iff.1 hS16).1; omega
              have hZge : w.heap.size ≤ Z := by have := hB16.size; omega
              have hZs := Lib.hid hzZ
              have hI17 : S1 (fun w' => w'.heap[X]? = some (.cells (pktC x (.slice pp m.length cp)) 27 (0, 0)) ∧ w'.heap[S]? = some (.cells (ints .u8 secret) 31 (0, 0))) (fun _ => True) [false] w17 := ⟨⟨hX17, hS17⟩, fun _ => trivial⟩
              refine ⟨by exact hI17, ?_⟩
              try simp only [Act.put, List.setIfInBounds_toArray, List.set_cons_zero, List.set_cons_succ]
              refine runOne (i := 10) (by kernel_rfl) rfl rfl ?_
              go_simp
              refine (pseal_any secret hs hsB way x.session x.epoch x.count hx.session hx.epoch hx.count plain po co w17 (hR.below hB17 hRlt.out) (hC.below hB17 hClt.out) hSo17).mono ?_
              intro e w18 hP
              obtain ⟨x', v', c', rfl, hv', hb18⟩ := hP.form
              have hX18 := below_blk hb18 hX17
              have hS18 := below_blk hb18 hS17
              have hZ18 := below_blk hb18 hZ17
              have hB18 := hB17.trans (hb18.mono hB17.size)
              have hI18 : S1 (fun w' => w'.heap[X]? = some (.cells (pktC x (.slice pp m.length cp)) 27 (0, 0)) ∧ w'.heap[S]? = some (.cells (ints .u8 secret) 31 (0, 0))) (fun _ => True) [true] w18 := ⟨⟨hX18, hS18⟩, fun _ => trivial⟩
              refine ⟨by exact hI18, ?_⟩
              try simp only [Act.put, List.setIfInBounds_toArray, List.set_cons_zero, List.set_cons_succ]
              refine takeA (i := 11) (v := ?_) rfl (by kernel_rfl) (fun _ _ _ h => h) rfl (by exact hI18) (fun wx hx => ?_) ?_
              rotate_left
              · go_simp; try with_reducible rfl
              try simp only [Act.put, List.setIfInBounds_toArray, List.set_cons_zero, List.set_cons_succ]
              refine takeA (i := 12) (v := ?_) rfl (by kernel_rfl) (fun _ _ _ h => h) rfl (by exact hI18) (fun wx hx => ?_) ?_
              rotate_left
              · go_simp; try with_reducible rfl
              try simp only [Act.put, List.setIfInBounds_toArray, List.set_cons_zero, List.set_cons_succ]
              refine takeA (i := 13) (v := ?_) rfl (by kernel_rfl) (fun _ _ _ h => h) rfl (by exact hI18) (fun wx hx => ?_) ?_
              rotate_left
              · go_simp; try with_reducible rfl
              try simp only [Act.put, List.setIfInBounds_toArray, List.set_cons_zero, List.set_cons_succ]
              refine runOne (i := 15) (by kernel_rfl) rfl rfl ?_
              refine wp_st_row (ty := 27) (new := pktC x' v') rfl rfl rfl (by exact hZ18) (n := 38) (by kernel_rfl) (pktC_size _ _) (pktC_size _ _) (pktC_one _ _ hv') ?_
              intro w17 hZ17 hk17
              have hX17 := hk17.heap hX18 hXZ
              have hS17 := hk17.heap hS18 hSZ
              have hB17 := hk17.below hB18 hB18.size (fun k e => by subst e; exact hZge)
              refine ⟨by exact (show S1 (fun w' => w'.heap[X]? = some (.cells (pktC x (.slice pp m.length cp)) 27 (0, 0)) ∧ w'.heap[S]? = some (.cells (ints .u8 secret) 31 (0, 0))) (fun _ => True) [true] w17 from ⟨⟨hX17, hS17⟩, fun _ => trivial⟩), ?_⟩
              try simp only [Act.put, List.setIfInBounds_toArray, List.set_cons_zero, List.set_cons_succ]
              refine takeA (i := 16) (v := ?_) rfl (by kernel_rfl) (fun _ _ _ h => h) rfl (by exact (show S1 (fun w' => w'.heap[X]? = some (.cells (pktC x (.slice pp m.length cp)) 27 (0, 0)) ∧ w'.heap[S]? = some (.cells (ints .u8 secret) 31 (0, 0))) (fun _ => True) [true] w17 from ⟨⟨hX17, hS17⟩, fun _ => trivial⟩)) (fun wx hx => ?_) ?_
              rotate_left
              · go_simp; try with_reducible rfl
              try simp only [Act.put, List.setIfInBounds_toArray, List.set_cons_zero, List.set_cons_succ]
              refine wpAnyE_done (by kernel_rfl) ?_ _
              exact HQ _ _ ⟨Z, po, co, x', v', c', by simp only [Act.put, List.setIfInBounds_toArray, List.set_cons_zero, List.set_cons_succ], hX17, hS17, hZ17, hB17⟩
          · refine wpOp_of rfl rfl ?_
            refine wp_al (T := 27) (cs := pktC pkt0 (.slice none 0 0)) rfl (by kernel_rfl) ?_
            intro w16 Z hZ16 hb16 hzZ hzZ'
            have hX16 := below_blk hb16 hX15
            have hS16 := below_blk hb16 hS15
            have hB16 := hB15.trans (hb16.mono hB15.size)
            have hXZ : X ≠ Z := fun e => by have := (Array.getElem?_eq_some_iff.1 hX15).1; omega
            have hSZ : S ≠ Z := fun e => by have := (Array.getElem?_eq_some_iff.1 hS15).1; omega
            have hZge : w.heap.size ≤ Z := by have := hB15.size; omega
            have hZs := Lib.hid hzZ
            have hI16 : S1 (fun w' => w'.heap[X]? = some (.cells (pktC x (.slice pp m.length cp)) 27 (0, 0)) ∧ w'.heap[S]? = some (.cells (ints .u8 secret) 31 (0, 0))) (fun _ => True) [false] w16 := ⟨⟨hX16, hS16⟩, fun _ => trivial⟩
            refine ⟨by exact hI16, ?_⟩
            try simp only [Act.put, List.setIfInBounds_toArray, List.set_cons_zero, List.set_cons_succ]
            refine runOne (i := 9) (by kernel_rfl) rfl rfl ?_
            go_simp
            refine (kown_any plain (by omega) np nc w16 (hn0.below hB16)).mono ?_
            rintro e w17 ⟨vo, rfl, hOo, hb17⟩
            obtain ⟨po, co, rfl, hSo17, hco⟩ := hOo.form
            have hX17 := below_blk hb17 hX16
            have hS17 := below_blk hb17 hS16
            have hZ17 := below_blk hb17 hZ16
            have hB17 := hB16.trans (hb17.mono hB16.size)
            have hI17 : S1 (fun w' => w'.heap[X]? = some (.cells (pktC x (.slice pp m.length cp)) 27 (0, 0)) ∧ w'.heap[S]? = some (.cells (ints .u8 secret) 31 (0, 0))) (fun _ => True) [false] w17 := ⟨⟨hX17, hS17⟩, fun _ => trivial⟩
            refine ⟨by exact hI17, ?_⟩
            try simp only [Act.put, List.setIfInBounds_toArray, List.set_cons_zero, List.set_cons_succ]
            refine runOne (i := 10) (by kernel_rfl) rfl rfl ?_
            go_simp
            refine (pseal_any secret hs hsB way x.session x.epoch x.count hx.session hx.epoch hx.count plain po co w17 (hR.below hB17 hRlt.out) (hC.below hB17 hClt.out) hSo17).mono ?_
            intro e w18 hP
            obtain ⟨x', v', c', rfl, hv', hb18⟩ := hP.form
            have hX18 := below_blk hb18 hX17
            have hS18 := below_blk hb18 hS17
            have hZ18 := below_blk hb18 hZ17
            have hB18 := hB17.trans (hb18.mono hB17.size)
            have hI18 : S1 (fun w' => w'.heap[X]? = some (.cells (pktC x (.slice pp m.length cp)) 27 (0, 0)) ∧ w'.heap[S]? = some (.cells (ints .u8 secret) 31 (0, 0))) (fun _ => True) [true] w18 := ⟨⟨hX18, hS18⟩, fun _ => trivial⟩
            refine ⟨by exact hI18, ?_⟩
            try simp only [Act.put, List.setIfInBounds_toArray, List.set_cons_zero, List.set_cons_succ]
            refine takeA (i := 11) (v := ?_) rfl (by kernel_rfl) (fun _ _ _ h => h) rfl (by exact hI18) (fun wx hx => ?_) ?_
            rotate_left
            · go_simp; try with_reducible rfl
            try simp only [Act.put, List.setIfInBounds_toArray, List.set_cons_zero, List.set_cons_succ]
            refine takeA (i := 12) (v := ?_) rfl (by kernel_rfl) (fun _ _ _ h => h) rfl (by exact hI18) (fun wx hx => ?_) ?_
            rotate_left
            · go_simp; try with_reducible rfl
            try simp only [Act.put, List.setIfInBounds_toArray, List.set_cons_zero, List.set_cons_succ]
            refine takeA (i := 13) (v := ?_) rfl (by kernel_rfl) (fun _ _ _ h => h) rfl (by exact hI18) (fun wx hx => ?_) ?_
            rotate_left
            · go_simp; try with_reducible rfl
            try simp only [Act.put, List.setIfInBounds_toArray, List.set_cons_zero, List.set_cons_succ]
            refine runOne (i := 15) (by kernel_rfl) rfl rfl ?_
            refine wp_st_row (ty := 27) (new := pktC x' v') rfl rfl rfl (by exact hZ18) (n := 38) (by kernel_rfl) (pktC_size _ _) (pktC_size _ _) (pktC_one _ _ hv') ?_
            intro w17 hZ17 hk17
            have hX17 := hk17.heap hX18 hXZ
            have hS17 := hk17.heap hS18 hSZ
            have hB17 := hk17.below hB18 hB18.size (fun k e => by subst e; exact hZge)
            refine ⟨by exact (show S1 (fun w' => w'.heap[X]? = some (.cells (pktC x (.slice pp m.length cp)) 27 (0, 0)) ∧ w'.heap[S]? = some (.cells (ints .u8 secret) 31 (0, 0))) (fun _ => True) [true] w17 from ⟨⟨hX17, hS17⟩, fun _ => trivial⟩), ?_⟩
            try simp only [Act.put, List.setIfInBounds_toArray, List.set_cons_zero, List.set_cons_succ]
            refine takeA (i := 16) (v := ?_) rfl (by kernel_rfl) (fun _ _ _ h => h) rfl (by exact (show S1 (fun w' => w'.heap[X]? = some (.cells (pktC x (.slice pp m.length cp)) 27 (0, 0)) ∧ w'.heap[S]? = some (.cells (ints .u8 secret) 31 (0, 0))) (fun _ => True) [true] w17 from ⟨⟨hX17, hS17⟩, fun _ => trivial⟩)) (fun wx hx => ?_) ?_
            rotate_left
            · go_simp; try with_reducible rfl
            try simp only [Act.put, List.setIfInBounds_toArray, List.set_cons_zero, List.set_cons_succ]
            refine wpAnyE_done (by kernel_rfl) ?_ _
            exact HQ _ _ ⟨Z, po, co, x', v', c', by simp only [Act.put, List.setIfInBounds_toArray, List.set_cons_zero, List.set_cons_succ], hX17, hS17, hZ17, hB17⟩
        rintro a' w17 ⟨Z, po, co, x', v', c', rfl, hX17, hS17, hZ17, hB17⟩
        try simp only [Act.put, List.setIfInBounds_toArray, List.set_cons_zero, List.set_cons_succ]
        go_wp2
        go_ret
        exact ⟨rfl, hB17⟩
    · have hv8 := hn8 hc0
      subst hv8
      have e1 : (c8 == 0) = false := beq_eq_false_iff_ne.2 hc0
      have e2 : (c8 != 0) = true := bne_iff_ne.2 hc0
      have HC8 := Lib.hid hc8
      clear hc8 hc0 ho8 hn8
      go_wp2_with (first | (refine ld_row rfl (ty := 27) rfl rfl hX8 Tryd.underlying27 rfl (by kernel_rfl) (pktC_size _ _) ?_) | (go_at_call 11; fail))
      refine (check_any x hx pp m.length cp (by omega) w8).mono ?_
      rintro e w9 ⟨rfl, hB9⟩
      have hBw9 := hBw8.trans (hB9.mono hBw8.size)
      rw [← HC8.out]
      go_wp2
      go_ret
      exact ⟨rfl, hBw9⟩
end Go.Proofs.YtjieiijbgbkikaaDoor
end
