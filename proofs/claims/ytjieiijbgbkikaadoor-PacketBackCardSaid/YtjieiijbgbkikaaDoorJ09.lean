/- Lemmas of a proof over the given program, joined by wip/join.py: KHkdf KPktKey KMacW. -/
import Derived.Test.YtjieiijbgbkikaaDoorJ07
import Derived.Test.YtjieiijbgbkikaaDoorJ08
import Derived.Laws.Cover3
set_option linter.unusedSimpArgs false
set_option linter.unusedVariables false
section
/- Package hkdf: Extract, Expand, Key. -/
namespace Go.Proofs.YtjieiijbgbkikaaDoor
open Go Go.RowKit
set_option maxRecDepth 100000
attribute [local go_sem] cell?_eq frozen?_eq heap_setCell_eq heap_setCell_ne

section
variable {P : Program} {ops : Array Oper} {rest : List Oper} {o : Oper} {a : Act} {w : World} {Q : Exit → Act → World → Prop}
/-- A load whose value is known. -/
theorem ld_eq (hgd : o.guard = none) {ty : TypeId} {x : Operand} (ho : o.op = .load ty x) {p v : Value} (hx : a.eval x = p) (h1 : (Instr.loadAt ty p).run P w = .ok v w) (h : wpList P ops Q rest (a.put o.dst v) w) : wpList P ops Q (o :: rest) a w := by
  refine wpList_plain hgd fun K hK => ?_
  unfold Oper.wp execOp
  simp only [ho, hx, Sem.run_bind, h1, Result.andThen_ok]
  exact hK _ _ h
end
set_option maxHeartbeats 4000000 in
theorem extract_any (salt secret : List Int) (hs : salt.length ≤ 64) (hsB : Bd 256 salt) (hxB : Bd 256 secret) (hx : secret.length ≤ 65536) (sp xp : Option Addr) (sc xc : Nat) (hxc : secret.length ≤ xc) (w : World) (hR : Rnd w) (hS : SL .u8 w sp salt) (hX : SL .u8 w xp secret) :
    Calls Tryd.prog 79 #[.slice sp salt.length sc, .slice xp secret.length xc] w fun e w' => e = .returned (.agg (ints .u8 (hmacS salt secret))) ∧ Below w.heap.size w w' := by
  have hRlt := Lib.hid hR.lt
  have hB0 : Below w.heap.size w ((w.alloc (.cells (ints .u8 (zerosL 32)) 31)).alloc (.cells #[Value.slice xp secret.length xc] 25)) := ((Below.refl _ w).alloc (Nat.le_refl _) _).alloc (by simp) _
  have hV : SV ((w.alloc (.cells (ints .u8 (zerosL 32)) 31)).alloc (.cells #[Value.slice xp secret.length xc] 25)) (some ⟨w.heap.size + 1, 0, none⟩) [Value.slice xp secret.length xc] := SV.row (blk2_1 _ _ _) rfl
  have hL : SLs ((w.alloc (.cells (ints .u8 (zerosL 32)) 31)).alloc (.cells #[Value.slice xp secret.length xc] 25)) [Value.slice xp secret.length xc] [secret] := SLs.cons (hX.below hB0) hxc (SLs.nil _)
  have hc := hmac_any salt hs hsB [secret] (by simpa using hxB) (by simp; omega) (by simp) _ sp (some ⟨w.heap.size + 1, 0, none⟩) sc 1 _ (hR.below hB0 hRlt.out) (hS.below hB0) hV hL
  have HC := Lib.hid hc
  have hl5 := hmacS_len salt secret
  clear hc hV hL
  go_enter Tryd.func79, Tryd.ntmps79
  go_wp2_with (first | (refine al_row rfl (T := 31) rfl (cs := ints .u8 (zerosL 32)) (by kernel_rfl) ?_) | (go_at_call 97; fail))
  refine HC.out.mono ?_
  rintro e w5 ⟨rfl, hB5⟩
  have hE5 := below_block hB5 (blk2_0 w _ _) (by simp; omega)
  have hBw5 := hB0.trans (hB5.mono (by simp; omega))
  have hfl : [secret].flatten = secret := by simp
  rw [hfl]
  clear hfl HC
  go_wp2_with (first | (refine st_row (n := 32) rfl (ty := 31) rfl rfl rfl (by exact hE5) (by kernel_rfl) (by rw [size_ints, zerosL_len]) (by rw [size_ints, hl5]) (oneCell_ints _ _) ?_))
  exact end_row (n := 32) rfl rfl (setRow_heap _ _ _ _ 31 (0,0) (by exact hE5)) Tryd.underlying31 rfl (by kernel_rfl) (by rw [size_ints, hl5]) rfl ⟨rfl, belowRow hBw5 (by omega) _⟩
/-- Thirty-two bytes of Expand. -/
def expandS (key info : List Int) : List Int := hmacS key (info ++ [1])
theorem expandS_len (key info : List Int) : (expandS key info).length = 32 := hmacS_len _ _
theorem expandS_bd (key info : List Int) : Bd 256 (expandS key info) := hmacS_bd _ _
def hkeyS (salt secret info : List Int) : List Int := expandS (hmacS salt secret) info
theorem hkeyS_len (salt secret info : List Int) : (hkeyS salt secret info).length = 32 := expandS_len _ _
theorem hkeyS_bd (salt secret info : List Int) : Bd 256 (hkeyS salt secret info) := expandS_bd _ _
set_option maxHeartbeats 8000000 in
theorem expand_any (key info : List Int) (hk : key.length = 32) (hkB : Bd 256 key) (hiB : Bd 256 info) (hi : info.length ≤ 65536) (ip : Option Addr) (ic : Nat) (hic : info.length ≤ ic) (w : World) (hR : Rnd w) (hI : SL .u8 w ip info) :
    Calls Tryd.prog 78 #[.agg (ints .u8 key), .slice ip info.length ic, .int .i64 32] w fun e w' => ∃ p cap, e = .returned (.tuple #[.slice p 32 cap, .int .i64 0]) ∧ SL .u8 w' p (expandS key info) ∧ 32 ≤ cap ∧ Below w.heap.size w w' := by
  have hRlt := Lib.hid hR.lt
  have hmk : ∀ wx, (Instr.makeSlice 25 (.int .i64 0) (.int .i64 64)).run Tryd.prog wx = .ok (.slice (some ⟨wx.heap.size, 0, none⟩) 0 64) (wx.alloc (.cells (ints .u8 (zerosL 64)) 5)) := fun wx => by kernel_rfl
  go_enter Tryd.func78, Tryd.ntmps78
  go_wp2_with (first | (refine al_row rfl (T := 31) rfl (cs := ints .u8 (zerosL 32)) (by kernel_rfl) ?_))
  have hK0 := blk3_0 w (.cells (ints .u8 key) 31) (.cells (ints .u8 (zerosL 64)) 5) (.cells #[] 5)
  have hQ0 := blk3_1 w (.cells (ints .u8 key) 31) (.cells (ints .u8 (zerosL 64)) 5) (.cells #[] 5)
  have hB0 : Below w.heap.size w (((w.alloc (.cells (ints .u8 key) 31)).alloc (.cells (ints .u8 (zerosL 64)) 5)).alloc (.cells #[] 5)) := (((Below.refl _ w).alloc (Nat.le_refl _) _).alloc (by simp) _).alloc (by simp; omega) _
  have hz0 : w.heap.size + 3 ≤ (((w.alloc (.cells (ints .u8 key) 31)).alloc (.cells (ints .u8 (zerosL 64)) 5)).alloc (.cells #[] 5)).heap.size := by simp
  generalize (((w.alloc (.cells (ints .u8 key) 31)).alloc (.cells (ints .u8 (zerosL 64)) 5)).alloc (.cells #[] 5)) = W at *
  go_loopw [8, 9, 10, 11] (fun ov lv iv _ wr => (ov = .slice (some ⟨w.heap.size + 1, 0, none⟩) 0 64 ∧ lv = .slice (some ⟨w.heap.size + 1 + 1, 0, none⟩) 0 0 ∧ iv = .int .u8 1 ∧ wr = W) ∨ (∃ p cap, ov = .slice p 32 cap ∧ SL .u8 wr p (expandS key info) ∧ 32 ≤ cap ∧ Below w.heap.size w wr)) (fun ov _ _ _ _ => 32 - lenV ov)
  case atStart => exact .inl ⟨rfl, rfl, rfl, rfl⟩
  case round =>
    rcases hrel with ⟨rfl, rfl, rfl, rfl⟩ | ⟨p, cap, rfl, hS, hcap, hB⟩
    · have hIW := hI.below hB0
      have hKS : SL .u8 wr (some ⟨w.heap.size, 0, none⟩) key := SL.row_all hK0
      have hBz : Below wr.heap.size wr ((wr.alloc (.cells #[Value.int .u8 1] 5)).alloc (.cells #[Value.slice (some ⟨w.heap.size + 1 + 1, 0, none⟩) 0 0, Value.slice ip info.length ic, Value.slice (some ⟨wr.heap.size, 0, none⟩) 1 1] 25)) := ((Below.refl _ wr).alloc (Nat.le_refl _) _).alloc (by simp) _
      have hSV4 : SV ((wr.alloc (.cells #[Value.int .u8 1] 5)).alloc (.cells #[Value.slice (some ⟨w.heap.size + 1 + 1, 0, none⟩) 0 0, Value.slice ip info.length ic, Value.slice (some ⟨wr.heap.size, 0, none⟩) 1 1] 25)) (some ⟨wr.heap.size + 1, 0, none⟩) [Value.slice (some ⟨w.heap.size + 1 + 1, 0, none⟩) 0 0, Value.slice ip info.length ic, Value.slice (some ⟨wr.heap.size, 0, none⟩) 1 1] := SV.row (blk2_1 _ _ _) rfl
      have hone : SL .u8 ((wr.alloc (.cells #[Value.int .u8 1] 5)).alloc (.cells #[Value.slice (some ⟨w.heap.size + 1 + 1, 0, none⟩) 0 0, Value.slice ip info.length ic, Value.slice (some ⟨wr.heap.size, 0, none⟩) 1 1] 25)) (some ⟨wr.heap.size, 0, none⟩) [1] := SL.row_all (l := [1]) (blk2_0 wr (.cells (ints .u8 [1]) 5) _)
      have hSL4 : SLs ((wr.alloc (.cells #[Value.int .u8 1] 5)).alloc (.cells #[Value.slice (some ⟨w.heap.size + 1 + 1, 0, none⟩) 0 0, Value.slice ip info.length ic, Value.slice (some ⟨wr.heap.size, 0, none⟩) 1 1] 25)) [Value.slice (some ⟨w.heap.size + 1 + 1, 0, none⟩) 0 0, Value.slice ip info.length ic, Value.slice (some ⟨wr.heap.size, 0, none⟩) 1 1] [[], info, [1]] :=
        SLs.cons (l := []) (SL.nil _ _ _) (Nat.le_refl _) (SLs.cons (hIW.below hBz) hic (SLs.cons (l := [1]) hone (Nat.le_refl _) (SLs.nil _)))
      have hfl : [[], info, [1]].flatten = info ++ [1] := by simp
      have hc := hmac_any key (by omega) hkB [[], info, [1]] (by rw [hfl]; exact hiB.append (by decide) (Bd.cons (by decide) (by decide) (Bd.nil (by decide)))) (by rw [hfl]; simp; omega) (by simp) _ (some ⟨w.heap.size, 0, none⟩) (some ⟨wr.heap.size + 1, 0, none⟩) 32 3 _ (hR.below (hB0.trans (hBz.mono (by omega))) hRlt.out) (hKS.below hBz) hSV4 hSL4
      rw [hk] at hc
      have HC := Lib.hid hc
      have HFL := Lib.hid hfl
      clear hc hfl hSV4 hSL4 hone
      go_wp2_with (go_at_call 97; fail)
      refine HC.out.mono ?_
      rintro e w5 ⟨rfl, hB5⟩
      rw [HFL.out]
      have hl5 := hmacS_len key (info ++ [1])
      have hQ5 := below_block hB5 (below_block hBz hQ0 (by omega)) (by simp; omega)
      have hBw5 := hB0.trans ((hBz.mono (by omega)).trans (hB5.mono (by simp; omega)))
      have hz5 : w.heap.size + 3 ≤ w5.heap.size := by have := hB5.size; simp at this; omega
      obtain ⟨T, hT⟩ : ∃ T, T = hmacS key (info ++ [1]) := ⟨_, rfl⟩
      rw [← hT] at hl5 ⊢
      have HT := Lib.hid hT; clear hT
      have hOwn : Own w.heap.size (w5.alloc (.cells (ints .u8 T) 31)) 5 .u8 (.slice (some ⟨w.heap.size + 1, 0, none⟩) 0 64) [] :=
        ⟨by simp, .inr ⟨w.heap.size + 1, 64, ints .u8 (zerosL 64), rfl, by omega, (heap_alloc_past _ _ _ (Array.getElem?_eq_some_iff.1 hQ5).1).trans hQ5, by simp, by unfold maxLen; simp, by simp [zerosL_len], rfl⟩⟩
      have HO := Lib.hid hOwn
      clear hOwn HC hB5 hBz
      go_wp2_with (first | (refine al_row rfl (T := 31) rfl (cs := ints .u8 (zerosL 32)) (by kernel_rfl) ?_) | (refine st_row (n := 32) rfl (ty := 31) rfl rfl rfl (by exact heap_alloc_at _ _ _ rfl) (by kernel_rfl) (by rw [size_ints, zerosL_len]) (by rw [size_ints, hl5]) (oneCell_ints _ _) ?_; rw [setRow_alloc_at _ _ _ _ _ rfl]) | (refine ap_ints rfl rfl Tryd.underlying25 (E := 5) (k := .u8) (by' := 1) (by kernel_rfl) (by decide) (base := w.heap.size) (v := .slice (some ⟨w.heap.size + 1, 0, none⟩) 0 64) (l := []) (m := T) rfl (by exact HO.out) rfl hl5.symm (by exact SL.row_all (heap_alloc_at _ _ _ rfl)) (by simp; omega) (by simp; omega) ?_; intro v6 w6 hO6 hg6 _))
      have hB6 := Own.grown HO.out (hBw5.alloc hBw5.size _) (by simp; omega) hg6
      rw [List.nil_append] at hO6
      have HO6 := Lib.hid hO6.form
      have hTe : T = expandS key info := HT.out
      have HTE := Lib.hid hTe; clear hTe
      clear hO6 hg6
      go_roundw
      case rel =>
        obtain ⟨p, c, e, hS, hc⟩ := HO6.out
        rw [hl5] at e hc
        rw [HTE.out] at hS
        exact .inr ⟨p, c, e, hS, hc, hB6⟩
      case measure =>
        obtain ⟨p, c, e, hS, hc⟩ := HO6.out
        rw [e, hl5]
        simp [lenV]
    · obtain ⟨p', rfl⟩ : ∃ p', p = some p' := by
        rcases hS with hS | ⟨b, off, rfl, _⟩
        · have := expandS_len key info; rw [hS] at this; simp at this
        · exact ⟨_, rfl⟩
      have hcap' : (32 : Int) ≤ (cap : Int) := by omega
      go_wp2
      refine bodyPost_ret (v := .tuple #[.slice (some p') 32 cap, .int .i64 0]) (by simp [results, Tryd.results78, go_sem]) rfl ?_
      exact ⟨_, _, rfl, hS, hcap, hB⟩
attribute [irreducible] expandS
set_option maxHeartbeats 4000000 in
theorem hkey_any (salt secret info : List Int) (hs : salt.length ≤ 64) (hsB : Bd 256 salt) (hxB : Bd 256 secret) (hx : secret.length ≤ 65536) (hiB : Bd 256 info) (hi : info.length ≤ 65536) (sp xp ip : Option Addr) (sc xc ic : Nat) (hxc : secret.length ≤ xc) (hic : info.length ≤ ic) (w : World) (hR : Rnd w)
    (hS : SL .u8 w sp salt) (hX : SL .u8 w xp secret) (hI : SL .u8 w ip info) :
    Calls Tryd.prog 30 #[.slice sp salt.length sc, .slice xp secret.length xc, .slice ip info.length ic] w fun e w' => e = .returned (.agg (ints .u8 (hkeyS salt secret info))) ∧ Below w.heap.size w w' := by
  have hRlt := Lib.hid hR.lt
  have hB0 : Below w.heap.size w (w.alloc (.cells (ints .u8 (zerosL 32)) 31)) := (Below.refl _ w).alloc (Nat.le_refl _) _
  have HC := Lib.hid (extract_any salt secret hs hsB hxB hx sp xp sc xc hxc _ (hR.below hB0 hRlt.out) (hS.below hB0) (hX.below hB0))
  go_enter Tryd.func30, Tryd.ntmps30
  go_wp2_with (first | (refine al_row rfl (T := 31) rfl (cs := ints .u8 (zerosL 32)) (by kernel_rfl) ?_) | (go_at_call 79; fail))
  refine HC.out.mono ?_
  rintro e w1 ⟨rfl, hB1⟩
  have hE1 := below_block hB1 (blk1_0 w _) (by simp)
  have hBw1 := hB0.trans (hB1.mono (by simp))
  have hz1 : w.heap.size + 1 ≤ w1.heap.size := by have := hB1.size; simpa using this
  have HD := Lib.hid (expand_any (hmacS salt secret) info (hmacS_len _ _) (hmacS_bd _ _) hiB hi ip ic hic w1 (hR.below hBw1 hRlt.out) (hI.below hBw1))
  clear HC hB1
  go_wp2_with (go_at_call 78; fail)
  refine HD.out.mono ?_
  rintro e w2 ⟨p, cap, rfl, hS2, hcap, hB2⟩
  have hE2 := below_block hB2 hE1 (by omega)
  have hBw2 := hBw1.trans (hB2.mono (by omega))
  have hel := expandS_len (hmacS salt secret) info
  rcases hS2 with hS2 | ⟨b, off, rfl, hS2⟩
  · rw [hS2] at hel; simp at hel
  have hS3 : SL .u8 w2 (some ⟨b, off, none⟩) (expandS (hmacS salt secret) info) := .inr ⟨b, off, rfl, hS2⟩
  have har : ∀ wx, (Instr.arrayAt 31 (.slice (some ⟨b, off, none⟩) 32 cap)).run Tryd.prog wx = .ok (.pointer (some ⟨b, off, none⟩)) wx := fun wx => run_arrayAt wx _ _ 32 _ 32 cap Tryd.underlying31 (Nat.le_refl _)
  have hld := run_loadAt_SL (P := Tryd.prog) (ty := 31) hS3 hel Tryd.underlying31 (by kernel_rfl)
  clear HD hB2 hE1 hS2 hS3
  obtain ⟨T, hT⟩ : ∃ T, T = expandS (hmacS salt secret) info := ⟨_, rfl⟩
  rw [← hT] at hel hld
  have HT := Lib.hid hT; clear hT
  have HLD := Lib.hid hld; clear hld
  go_wp2_with (first | (refine ld_eq rfl rfl rfl HLD.out ?_) | (refine st_row (n := 32) rfl (ty := 31) rfl rfl rfl (by exact hE2) (by kernel_rfl) (by rw [size_ints, zerosL_len]) (by rw [size_ints, hel]) (oneCell_ints _ _) ?_))
  refine end_row (n := 32) rfl rfl (setRow_heap _ _ _ _ 31 (0,0) (by exact hE2)) Tryd.underlying31 rfl (by kernel_rfl) (by rw [size_ints, hel]) rfl ⟨?_, belowRow hBw2 (by omega) _⟩
  rw [HT.out]; rfl
attribute [irreducible] hkeyS
end Go.Proofs.YtjieiijbgbkikaaDoor
end
section
/- Package packet: Key. -/
namespace Go.Proofs.YtjieiijbgbkikaaDoor
open Go Go.RowKit
set_option maxRecDepth 100000
attribute [local go_sem] cell?_eq frozen?_eq heap_setCell_eq heap_setCell_ne

theorem bits_par (x : Int) : bits .and .i64 x 1 % 256 = x % 2 := by
  unfold bits
  have h1 : (BitVec.ofInt 64 x &&& BitVec.ofInt 64 1).toNat = (BitVec.ofInt 64 x).toNat % 2 := by
    rw [BitVec.toNat_and]; exact Nat.and_two_pow_sub_one_eq_mod _ 1
  have h2 : (BitVec.ofInt 64 x).toNat = (x % 18446744073709551616).toNat := BitVec.toNat_ofInt ..
  show IntKind.i64.wrap ((BitVec.ofInt 64 x &&& BitVec.ofInt 64 1).toNat : Int) % 256 = _
  rw [h1, h2]
  have h3 : (((x % 18446744073709551616).toNat % 2 : Nat) : Int) = x % 2 := by omega
  rw [h3]
  have h4 : IntKind.i64.wrap (x % 2) = x % 2 := IntWalk.i64_in _ (by omega)
  rw [h4]; omega
/-- What goes into the key besides the secret. -/
def infoS (epoch way : Int) : List Int := [100, 97, 116, 97, epoch / 16777216, epoch / 65536 % 256, epoch / 256 % 256, epoch % 256, way % 2]
theorem infoS_bd {epoch : Int} (way : Int) (h0 : 0 ≤ epoch) (h1 : epoch < 4294967296) : Bd 256 (infoS epoch way) := by
  unfold infoS
  refine .of_mem (by decide) fun x hx => ?_
  simp at hx
  omega
def pkeyS (secret : List Int) (epoch way : Int) : List Int := hkeyS [] secret (infoS epoch way)
theorem pkeyS_len (secret : List Int) (epoch way : Int) : (pkeyS secret epoch way).length = 32 := hkeyS_len _ _ _
theorem pkeyS_bd (secret : List Int) (epoch way : Int) : Bd 256 (pkeyS secret epoch way) := hkeyS_bd _ _ _
set_option maxHeartbeats 4000000 in
theorem pkey_any (secret : List Int) (hs : secret.length = 32) (hsB : Bd 256 secret) (epoch way : Int) (he0 : 0 ≤ epoch) (he1 : epoch < 4294967296) (w : World) (hR : Rnd w) :
    Calls Tryd.prog 13 #[.agg (ints .u8 secret), .int .u32 epoch, .int .i64 way] w fun e w' => e = .returned (.agg (ints .u8 (pkeyS secret epoch way))) ∧ Below w.heap.size w w' := by
  have hRlt := Lib.hid hR.lt
  have hB0 : Below w.heap.size w (((w.alloc (.cells (ints .u8 secret) 31)).alloc (.cells (ints .u8 (zerosL 32)) 31)).alloc (.cells (ints .u8 (infoS epoch way)) 5)) := (((Below.refl _ w).alloc (Nat.le_refl _) _).alloc (by simp) _).alloc (by simp; omega) _
  have hX : SL .u8 (((w.alloc (.cells (ints .u8 secret) 31)).alloc (.cells (ints .u8 (zerosL 32)) 31)).alloc (.cells (ints .u8 (infoS epoch way)) 5)) (some ⟨w.heap.size, 0, none⟩) secret := SL.row_all (blk3_0 _ _ _ _)
  have hI : SL .u8 (((w.alloc (.cells (ints .u8 secret) 31)).alloc (.cells (ints .u8 (zerosL 32)) 31)).alloc (.cells (ints .u8 (infoS epoch way)) 5)) (some ⟨w.heap.size + 1 + 1, 0, none⟩) (infoS epoch way) := SL.row_all (blk3_2 _ _ _ _)
  have hc := hkey_any [] secret (infoS epoch way) (by decide) (Bd.nil (by decide)) hsB (by omega) (infoS_bd way he0 he1) (by simp [infoS]) none (some ⟨w.heap.size, 0, none⟩) (some ⟨w.heap.size + 1 + 1, 0, none⟩) 0 32 9 (by omega) (by simp [infoS]) _ (hR.below hB0 hRlt.out) (SL.nil _ _ _) hX hI
  have hO := blk3_1 w (.cells (ints .u8 secret) 31) (.cells (ints .u8 (zerosL 32)) 31) (.cells (ints .u8 (infoS epoch way)) 5)
  rw [hs] at hc
  have HC := Lib.hid hc
  have HO := Lib.hid hO
  have hl := pkeyS_len secret epoch way
  clear hc hX hI hO
  go_enter Tryd.func13, Tryd.ntmps13
  go_wp2_with (first | (refine al_row rfl (T := 31) rfl (cs := ints .u8 (zerosL 32)) (by kernel_rfl) ?_) | (go_at_call 30; fail))
  rw [bits_par]
  refine HC.out.mono ?_
  rintro e w1 ⟨rfl, hB1⟩
  have hO1 := below_block hB1 HO.out (by simp <;> omega)
  have hBw1 := hB0.trans (hB1.mono (by simp; omega))
  have hT : hkeyS [] secret (infoS epoch way) = pkeyS secret epoch way := rfl
  rw [hT]
  clear hT HC HO hB1
  go_wp2_with (first | (refine st_row (n := 32) rfl (ty := 31) rfl rfl rfl (by exact hO1) (by kernel_rfl) (by rw [size_ints, zerosL_len]) (by rw [size_ints, hl]) (oneCell_ints _ _) ?_))
  exact end_row (n := 32) rfl rfl (setRow_heap _ _ _ _ 31 (0,0) (by exact hO1)) Tryd.underlying31 rfl (by kernel_rfl) (by rw [size_ints, hl]) rfl ⟨rfl, belowRow hBw1 (by omega) _⟩
attribute [irreducible] pkeyS
end Go.Proofs.YtjieiijbgbkikaaDoor
end
section
/- Package poly: Write. -/
namespace Go.Proofs.YtjieiijbgbkikaaDoor
open Go Go.RowKit
set_option maxRecDepth 100000
attribute [local go_sem] cell?_eq frozen?_eq heap_setCell_eq heap_setCell_ne

theorem pblockS_len {h : List Int} (_hh : h.length = 5) (r p : List Int) : (pblockS h r p).length = 5 := by
  unfold pblockS endS
  simp [carTo_len, mulTo_len]
/-- j blocks of l taken up. -/
def blocksTo (h r l : List Int) : Nat → List Int
  | 0 => h
  | j + 1 => pblockS (blocksTo h r l j) r ((l.drop (16 * j)).take 16)
theorem blocksTo_zero (h r l : List Int) : blocksTo h r l 0 = h := rfl
theorem blocksTo_succ (h r l : List Int) (j : Nat) : blocksTo h r l (j + 1) = pblockS (blocksTo h r l j) r ((l.drop (16 * j)).take 16) := rfl
theorem blocksTo_len {h : List Int} (hh : h.length = 5) (r l : List Int) (j : Nat) : (blocksTo h r l j).length = 5 := by
  induction j with
  | zero => exact hh
  | succ j ih => rw [blocksTo_succ]; exact pblockS_len ih ..
attribute [irreducible] blocksTo
def writeH (h r l b : List Int) : List Int := blocksTo h r (l ++ b) ((l ++ b).length / 16)
def writeL (l b : List Int) : List Int := (l ++ b).drop (16 * ((l ++ b).length / 16))

set_option maxHeartbeats 8000000 in
theorem write_any (r h s l b : List Int) (hr : r.length = 5) (hh : h.length = 5) (hlB : Bd 256 l) (hbB : Bd 256 b) (hlen : l.length + b.length ≤ 1099511627776) (B M : Nat) (v : Value) (n : Int) (p : Option Addr) (cap : Nat) (w : World)
    (hM : w.heap[M]? = some (.cells (macC r h s v n) 143 (0, 0))) (hO : Own B w 5 .u8 v l) (hB : B ≤ w.heap.size) (hb : SL .u8 w p b) (hne : ∀ a, p = some a → b ≠ [] → a.block ≠ M ∧ v.ownBlock ≠ some a.block) :
    Calls Tryd.prog 95 #[.pointer (some ⟨M, 0, none⟩), .slice p b.length cap] w fun e w' => e = .returned (.int .i64 0) ∧ ∃ v' n', w'.heap[M]? = some (.cells (macC r (writeH h r l b) s v' n') 143 (0, 0)) ∧
      Own w.heap.size w' 5 .u8 v' (writeL l b) ∧ Kep (fun k => k = M ∨ v.ownBlock = some k) w w' := by
  have hMv := hO.ne hM (by decide)
  have hMlt := Lib.hid (Array.getElem?_eq_some_iff.1 hM).1
  obtain ⟨vp, vc, rfl, hSl, hvc⟩ := hO.form
  go_enter Tryd.func95, Tryd.ntmps95
  go_wp2_with (refine ap_ints rfl rfl Tryd.underlying25 (E := 5) (k := .u8) (by' := 1) (by kernel_rfl) (by decide) (base := B) (v := .slice vp l.length vc) (l := l) (m := b) rfl (by exact hO.kep ((Kep.refl (fun k => k = M) w).setCell (.inl rfl) _) (fun g hg e => hMv (hg.trans (congrArg some e)))) rfl rfl (by exact hb.kep ((Kep.refl (fun k => k = M) w).setCell (.inl rfl) _) (fun a ha hn => (hne a ha hn).1)) (by omega) (by simpa using hB) ?_; intro v1 w1 hO1 hg1 hv1; obtain ⟨p1, c1, rfl, hS1, hc1⟩ := hO1.form; have hM1 := (hg1.block M (by simpa using hMlt.out) hMv.symm).trans (by rw [heap_setCell_eq, hM, putOf_some, macC_set27]); have hK1 := ((Kep.refl (fun k => k = M ∨ (Value.slice vp l.length vc).ownBlock = some k) w).setCell (.inl (.inl rfl)) _).trans (Kep.of_grown hg1 (fun g hg => .inr hg)); clear hg1 hv1 hb hne)
  obtain ⟨L, hL⟩ : ∃ L, L = l ++ b := ⟨_, rfl⟩
  have hLl : L.length = l.length + b.length := by rw [hL, List.length_append]
  have hL40 : L.length ≤ 1099511627776 := by omega
  have hLB : Bd 256 L := by rw [hL]; exact hlB.append (by decide) hbB
  have hM2 : (w1.setCell ⟨M, 26, none⟩ (.slice p1 L.length c1)).heap[M]? = some (.cells (macC r h s (.slice p1 L.length c1) (wrap64 (n + b.length))) 143 (0, 0)) := by rw [heap_setCell_eq, hM1, putOf_some, macC_set26]
  have hK2 := hK1.setCell (g := M) (o := 26) (.inl (.inl rfl)) (.slice p1 L.length c1)
  rw [← hL] at hO1 hS1 hc1
  rw [← hLl]
  have hM1v := hO1.ne hM1 (by decide)
  have hB1 : B ≤ w1.heap.size := Nat.le_trans hB hK1.size
  have hO2 : Own B (w1.setCell ⟨M, 26, none⟩ (.slice p1 L.length c1)) 5 .u8 (.slice p1 L.length c1) L := hO1.kep ((Kep.refl (fun k => k = M) w1).setCell (.inl rfl) _) (fun g hg e => hM1v (hg.trans (congrArg some e)))
  have hS2 : SL .u8 (w1.setCell ⟨M, 26, none⟩ (.slice p1 L.length c1)) p1 L := by
    obtain ⟨p2, c2, e, h2, _⟩ := hO2.form
    cases e; exact h2
  have hp1 := Lib.hid hO2.cases
  generalize w1.setCell ⟨M, 26, none⟩ (.slice p1 L.length c1) = w2 at *
  generalize wrap64 (n + b.length) = n2 at *
  have HLl := Lib.hid hLl
  have HL := Lib.hid hL
  clear hM1 hK1 hO1 hS1 hSl hO hM hLl hL
  go_loopw [5] (fun m wr => ∃ j : Nat, 16 * j ≤ L.length ∧ m = .int .i64 (16 * j : Nat) ∧ wr.heap[M]? = some (.cells (macC r (blocksTo h r L j) s (.slice p1 L.length c1) n2) 143 (0, 0)) ∧ Kep (fun k => k = M ∨ (Value.slice vp l.length vc).ownBlock = some k) w wr ∧ SL .u8 wr p1 L) (fun m _ => L.length - (intOf m).toNat)
  case atStart => exact ⟨0, by omega, rfl, by rw [blocksTo_zero]; exact hM2, hK2, hS2⟩
  case round =>
    clear hM2 hK2 hS2 hO2
    obtain ⟨j, hj, rfl, hM, hK, hS⟩ := hrel
    by_cases hlt : 16 * j + 16 ≤ L.length
    · have g1 : 16 * (j : Int) + 16 ≤ (L.length : Int) := by omega
      obtain ⟨g, o, rfl, _⟩ := hS.open (i := 0) (by omega)
      go_wp2
      have hbl := blocksTo_len hh r L j
      have a0 : IntKind.i64.wrap (16 * (j : Int) + 16) = 16 * (j : Int) + 16 := IntWalk.i64_in _ (by omega)
      have a1 : 16 * (j : Int) ≤ max (16 * (j : Int) + 16) 0 := by omega
      have a9 : 16 * (j : Int) ≤ 16 * (j : Int) + 16 := by omega
      have a2 : 16 * (j : Int) + 16 ≤ (c1 : Int) := by omega
      have a3 : 0 ≤ 16 * (j : Int) + 16 := by omega
      have a4 : 0 ≤ 16 * (j : Int) := by omega
      have a5 : (16 * (j : Int)).toNat = 16 * j := by omega
      have a6 : (16 * (j : Int) + 16).toNat = 16 * j + 16 := by omega
      have a7 : 16 * j + 16 - 16 * j = 16 := by omega
      have a8 : ¬ c1 = 16 * j := by omega
      refine wp_region_E [17] (S1 (fun _ => True) (fun w' => Quiet wr w')) (by kernel_rfl) ?_
      have hq0 : Quiet wr wr.drew := ⟨1, rfl⟩
      have hS0 : S1 (fun _ => True) (fun w' => Quiet wr w') [false] wr.drew := ⟨trivial, fun _ => hq0⟩
      try simp only [Act.put, List.setIfInBounds_toArray, List.set_cons_zero, List.set_cons_succ]
      have hpl : ((L.drop (16 * j)).take 16).length = 16 := by simp; omega
      have hcall := fun wx hx => pblock_any (blocksTo h r L j) r ((L.drop (16 * j)).take 16) hbl hr (by omega) ((hLB.drop (by decide) _).take (by decide) _) (some ⟨g, o + 16 * j, none⟩) (c1 - 16 * j) wx hx
      rw [hpl] at hcall
      have hbl' := blocksTo_len hh r L (j + 1)
      refine takeA (i := 0) (v := ?_) rfl (by kernel_rfl) (fun _ _ _ h => h) rfl (by exact hS0) (fun wx hx => ?_) ?_
      rotate_left
      · go_simp; try with_reducible rfl
      try simp only [Act.put, List.setIfInBounds_toArray, List.set_cons_zero, List.set_cons_succ]
      refine takeB (i := 1) (v := ?_) rfl (by kernel_rfl) (fun _ _ _ h => h) rfl (by kernel_rfl) (by exact hS0) (fun wx hx hb => ?_) ?_
      rotate_left
      · obtain ⟨nx, rfl⟩ := hb; go_simp; try with_reducible rfl
      try simp only [Act.put, List.setIfInBounds_toArray, List.set_cons_zero, List.set_cons_succ]
      refine takeB (i := 2) (v := ?_) rfl (by kernel_rfl) (fun _ _ _ h => h) rfl (by kernel_rfl) (by exact hS0) (fun wx hx hb => ?_) ?_
      rotate_left
      · obtain ⟨nx, rfl⟩ := hb; go_simp; try with_reducible rfl
      try simp only [Act.put, List.setIfInBounds_toArray, List.set_cons_zero, List.set_cons_succ]
      refine takeB (i := 3) (v := ?_) rfl (by kernel_rfl) (fun _ _ _ h => h) rfl (by kernel_rfl) (by exact hS0) (fun wx hx hb => ?_) ?_
      rotate_left
      · obtain ⟨nx, rfl⟩ := hb; go_simp; try with_reducible rfl
      try simp only [Act.put, List.setIfInBounds_toArray, List.set_cons_zero, List.set_cons_succ]
      refine takeB (i := 4) (v := ?_) rfl (by kernel_rfl) (fun _ _ _ h => h) rfl (by kernel_rfl) (by exact hS0) (fun wx hx hb => ?_) ?_
      rotate_left
      · obtain ⟨nx, rfl⟩ := hb; go_simp; try with_reducible rfl
      try simp only [Act.put, List.setIfInBounds_toArray, List.set_cons_zero, List.set_cons_succ]
      refine takeB (i := 5) (v := ?_) rfl (by kernel_rfl) (fun _ _ _ h => h) rfl (by kernel_rfl) (by exact hS0) (fun wx hx hb => ?_) ?_
      rotate_left
      · obtain ⟨nx, rfl⟩ := hb; go_simp; try with_reducible rfl
      try simp only [Act.put, List.setIfInBounds_toArray, List.set_cons_zero, List.set_cons_succ]
      refine takeB (i := 6) (v := ?_) rfl (by kernel_rfl) (fun _ _ _ h => h) rfl (by kernel_rfl) (by exact hS0) (fun wx hx hb => ?_) ?_
      rotate_left
      · obtain ⟨nx, rfl⟩ := hb; go_simp; try with_reducible rfl
      try simp only [Act.put, List.setIfInBounds_toArray, List.set_cons_zero, List.set_cons_succ]
      refine takeB (i := 7) (v := ?_) rfl (by kernel_rfl) (fun _ _ _ h => h) rfl (by kernel_rfl) (by exact hS0) (fun wx hx hb => ?_) ?_
      rotate_left
      · obtain ⟨nx, rfl⟩ := hb; go_simp; try with_reducible rfl
      try simp only [Act.put, List.setIfInBounds_toArray, List.set_cons_zero, List.set_cons_succ]
      refine takeB (i := 8) (v := ?_) rfl (by kernel_rfl) (fun _ _ _ h => h) rfl (by kernel_rfl) (by exact hS0) (fun wx hx hb => ?_) ?_
      rotate_left
      · obtain ⟨nx, rfl⟩ := hb; go_simp; try with_reducible rfl
      try simp only [Act.put, List.setIfInBounds_toArray, List.set_cons_zero, List.set_cons_succ]
      refine takeB (i := 9) (v := ?_) rfl (by kernel_rfl) (fun _ _ _ h => h) rfl (by kernel_rfl) (by exact hS0) (fun wx hx hb => ?_) ?_
      rotate_left
      · obtain ⟨nx, rfl⟩ := hb; go_simp; try with_reducible rfl
      try simp only [Act.put, List.setIfInBounds_toArray, List.set_cons_zero, List.set_cons_succ]
      refine takeB (i := 10) (v := ?_) rfl (by kernel_rfl) (fun _ _ _ h => h) rfl (by kernel_rfl) (by exact hS0) (fun wx hx hb => ?_) ?_
      rotate_left
      · obtain ⟨nx, rfl⟩ := hb; go_simp; try with_reducible rfl
      try simp only [Act.put, List.setIfInBounds_toArray, List.set_cons_zero, List.set_cons_succ]
      refine takeB (i := 11) (v := ?_) rfl (by kernel_rfl) (fun _ _ _ h => h) rfl (by kernel_rfl) (by exact hS0) (fun wx hx hb => ?_) ?_
      rotate_left
      · obtain ⟨nx, rfl⟩ := hb; go_simp; try with_reducible rfl
      try simp only [Act.put, List.setIfInBounds_toArray, List.set_cons_zero, List.set_cons_succ]
      refine takeB (i := 12) (v := ?_) rfl (by kernel_rfl) (fun _ _ _ h => h) rfl (by kernel_rfl) (by exact hS0) (fun wx hx hb => ?_) ?_
      rotate_left
      · obtain ⟨nx, rfl⟩ := hb; go_simp; try with_reducible rfl
      try simp only [Act.put, List.setIfInBounds_toArray, List.set_cons_zero, List.set_cons_succ]
      refine takeB (i := 13) (v := ?_) rfl (by kernel_rfl) (fun _ _ _ h => h) rfl (by kernel_rfl) (by exact hS0) (fun wx hx hb => ?_) ?_
      rotate_left
      · obtain ⟨nx, rfl⟩ := hb; go_simp; try with_reducible rfl
      try simp only [Act.put, List.setIfInBounds_toArray, List.set_cons_zero, List.set_cons_succ]
      refine takeB (i := 14) (v := ?_) rfl (by kernel_rfl) (fun _ _ _ h => h) rfl (by kernel_rfl) (by exact hS0) (fun wx hx hb => ?_) ?_
      rotate_left
      · obtain ⟨nx, rfl⟩ := hb; go_simp; try with_reducible rfl
      try simp only [Act.put, List.setIfInBounds_toArray, List.set_cons_zero, List.set_cons_succ]
      refine takeB (i := 15) (v := ?_) rfl (by kernel_rfl) (fun _ _ _ h => h) rfl (by kernel_rfl) (by exact hS0) (fun wx hx hb => ?_) ?_
      rotate_left
      · obtain ⟨nx, rfl⟩ := hb; go_simp; try with_reducible rfl
      try simp only [Act.put, List.setIfInBounds_toArray, List.set_cons_zero, List.set_cons_succ]
      refine takeB (i := 16) (v := ?_) rfl (by kernel_rfl) (fun _ _ _ h => h) rfl (by kernel_rfl) (by exact hS0) (fun wx hx hb => ?_) ?_
      rotate_left
      · obtain ⟨nx, rfl⟩ := hb; go_simp; try with_reducible rfl
      try simp only [Act.put, List.setIfInBounds_toArray, List.set_cons_zero, List.set_cons_succ]
      refine runOne (i := 17) (by kernel_rfl) rfl rfl ?_
      go_simp
      rw [macC_row_h _ _ _ _ _ hbl, macC_row_r _ _ _ _ _ hr]
      refine (hcall _ ((hS.quiet hq0).sub _ _ (by omega))).mono ?_
      rintro e w3 ⟨rfl, hB3⟩
      rw [← blocksTo_succ]
      have hM3 := below_block hB3 (show wr.drew.heap[M]? = _ from hM) (by exact (Array.getElem?_eq_some_iff.1 hM).1)
      have hS1 : S1 (fun _ => True) (fun w' => Quiet wr w') [true] w3 := ⟨trivial, fun h => by cases h⟩
      refine ⟨by exact hS1, ?_⟩
      try simp only [Act.put, List.setIfInBounds_toArray, List.set_cons_zero, List.set_cons_succ]
      refine takeA (i := 18) (v := ?_) rfl (by kernel_rfl) (fun _ _ _ h => h) rfl (by exact hS1) (fun wx hx => ?_) ?_
      rotate_left
      · go_simp; try with_reducible rfl
      try simp only [Act.put, List.setIfInBounds_toArray, List.set_cons_zero, List.set_cons_succ]
      refine takeA (i := 19) (v := ?_) rfl (by kernel_rfl) (fun _ _ _ h => h) rfl (by exact hS1) (fun wx hx => ?_) ?_
      rotate_left
      · go_simp; try with_reducible rfl
      try simp only [Act.put, List.setIfInBounds_toArray, List.set_cons_zero, List.set_cons_succ]
      refine runOne (i := 20) (by kernel_rfl) rfl rfl (wp_st_seg (ty := 141) (g := M) (off := 5) rfl rfl rfl (by exact hM3) (by rw [size_ints, hbl']; kernel_rfl) (by rw [size_ints, hbl', macC_size]; omega) (oneCell_ints _ _) ?_)
      refine ⟨⟨trivial, fun h => by cases h⟩, ?_⟩
      try simp only [Act.put, List.setIfInBounds_toArray, List.set_cons_zero, List.set_cons_succ]
      refine wpAnyE_done (by kernel_rfl) ?_ _
      go_wp2
      go_roundw
      case rel =>
        refine ⟨j + 1, by omega, by go_num, ?_, ?_, ?_⟩
        · exact (setRow_heap _ _ _ _ _ _ hM3).trans (by rw [macC_over_h _ _ _ _ _ _ hbl'])
        · exact ((hK.drew).trans (Kep.of_below hB3 (fun k hk _ => hk))).setRow (.inl (.inl rfl)) _
        · exact ((hS.quiet hq0).below hB3).kep ((Kep.refl (fun k => k = M) w3).setRow (.inl rfl) _) (fun a ha _ e => hM1v (by rw [← e]; cases ha; rfl))
      case measure => simp [intOf]; omega
    · have hj' := Lib.hid (show j = L.length / 16 by omega)
      have g1 : ¬ 16 ≤ (L.length : Int) - 16 * (j : Int) := by omega
      have g2 : 16 * (j : Int) ≤ (L.length : Int) := by omega
      have g3 : (16 * (j : Int)).toNat = 16 * j := by omega
      have hMa := fun o => (heap_alloc_past wr o M (Array.getElem?_eq_some_iff.1 hM).1).trans hM
      have hKs := hK.size
      have hMw : M < wr.heap.size := (Array.getElem?_eq_some_iff.1 hM).1
      have hMw' := Lib.hid hMw
      have hfin : ∀ (o : Obj) (w5 : World), (wr.alloc o).grownBy w5 (some wr.heap.size) → w5.heap[M]? = _ := fun o w5 hg => (hg.block M (by simp; omega) (by intro e; cases e; omega)).trans (hMa o)
      have hKfin : ∀ (o : Obj) (w5 : World), (wr.alloc o).grownBy w5 (some wr.heap.size) → ∀ v5, Kep (fun k => k = M ∨ (Value.slice vp l.length vc).ownBlock = some k) w (w5.setCell ⟨M, 26, none⟩ v5) := fun o w5 hg v5 =>
        ((hK.alloc o).then (Kep.of_grown (S := fun k => k = wr.heap.size) hg (fun g e => (Option.some.inj e).symm)) (fun i hi e => absurd (show i = wr.heap.size from e) (by omega))).setCell (.inl (.inl rfl)) v5
      clear hMw
      have hwL : writeL l b = L.drop (16 * j) := by rw [writeL, ← HL.out, ← hj'.out]
      have hwH : writeH h r l b = blocksTo h r L j := by rw [writeH, ← HL.out, ← hj'.out]
      have hend : ∀ (w5 : World) (v5 : Value) (R : List Int), Hid (R = L.drop (16 * j)) → w5.heap[M]? = some (.cells (macC r (blocksTo h r L j) s (.slice p1 L.length c1) n2) 143 (0, 0)) → Own w.heap.size w5 5 .u8 v5 R → (∃ o, (wr.alloc o).grownBy w5 (some wr.heap.size)) →
          ∃ v' n', (w5.setCell ⟨M, 26, none⟩ v5).heap[M]? = some (.cells (macC r (writeH h r l b) s v' n') 143 (0, 0)) ∧ Own w.heap.size (w5.setCell ⟨M, 26, none⟩ v5) 5 .u8 v' (writeL l b) ∧ Kep (fun k => k = M ∨ (Value.slice vp l.length vc).ownBlock = some k) w (w5.setCell ⟨M, 26, none⟩ v5) := fun w5 v5 R HR hM5 hO5 ⟨o, hg⟩ =>
        ⟨v5, n2, by rw [heap_setCell_eq, hM5, putOf_some, macC_set26, hwH], by
          rw [hwL, ← HR.out]
          exact Own.kep hO5 ((Kep.refl (fun k => k = M) w5).setCell (.inl rfl) _) (fun g hg e => hO5.ne hM5 (by decide) (hg.trans (congrArg some e))), hKfin o w5 hg v5⟩
      clear hwL hwH
      rcases hp1.out with ⟨e, e0⟩ | ⟨g, c, e, hSg, hc, _⟩
      · simp only [Value.slice.injEq] at e
        obtain ⟨rfl, -, rfl⟩ := e
        have g4 : j = 0 := by rw [e0] at hj; simp at hj; omega
        have g5 : L.length = 0 := by rw [e0]; rfl
        have g6 : L.drop (16 * j) = [] := by rw [e0]; simp
        clear hMa g1 g2 g3 hlt hc1
        have hM0 := fun o => (heap_alloc_past wr o M hMw'.out).trans hM
        rw [g5] at hM0
        go_wp2_with (refine ap_ints rfl rfl Tryd.underlying25 (E := 5) (k := .u8) (by' := 1) (by kernel_rfl) (by decide) (base := w.heap.size) (v := .slice (some ⟨wr.heap.size, 0, none⟩) 0 0) (l := []) (m := L.drop (16 * j)) rfl (by exact Own.fresh wr _ _ hKs) rfl (by simp [g5]) (by rw [g6]; exact SL.nil _ _ _) (by simp; omega) (by simp; omega) ?_; intro v5 w5 hO5 hg5 _; rw [List.nil_append] at hO5; obtain ⟨R, hR⟩ : ∃ R, R = L.drop (16 * j) := ⟨_, rfl⟩; rw [← hR] at hO5; have HR := Lib.hid hR; clear hR; have hf := hO5.form; obtain ⟨p5, c5, rfl, _, _⟩ := hf; have hM5 := hfin _ _ hg5)
        go_ret
        obtain ⟨v', n', x1, x2, x3⟩ := hend _ _ _ HR hM5 hO5 ⟨_, hg5⟩
        first | exact ⟨rfl, v', ⟨n', x1⟩, x2, x3⟩ | exact ⟨rfl, v', n', x1, x2, x3⟩
      · simp only [Value.slice.injEq] at e
        obtain ⟨rfl, -, rfl⟩ := e
        by_cases hc0 : c1 = 16 * j
        · have hL0 : L.drop (16 * j) = [] := List.drop_eq_nil_of_le (by omega)
          go_wp2_with (refine ap_ints rfl rfl Tryd.underlying25 (E := 5) (k := .u8) (by' := 1) (by kernel_rfl) (by decide) (base := w.heap.size) (v := .slice (some ⟨wr.heap.size, 0, none⟩) 0 0) (l := []) (m := L.drop (16 * j)) rfl (by exact Own.fresh wr _ _ hKs) rfl (by simp) (by exact (by rw [hL0]; exact SL.nil _ _ _)) (by simp; omega) (by simp; omega) ?_; intro v5 w5 hO5 hg5 _; rw [List.nil_append] at hO5; obtain ⟨R, hR⟩ : ∃ R, R = L.drop (16 * j) := ⟨_, rfl⟩; rw [← hR] at hO5; have HR := Lib.hid hR; clear hR; have hf := hO5.form; obtain ⟨p5, c5, rfl, _, _⟩ := hf; have hM5 := hfin _ _ hg5)
          go_ret
          obtain ⟨v', n', x1, x2, x3⟩ := hend _ _ _ HR hM5 hO5 ⟨_, hg5⟩
          first | exact ⟨rfl, v', ⟨n', x1⟩, x2, x3⟩ | exact ⟨rfl, v', n', x1, x2, x3⟩
        · go_wp2_with (refine ap_ints rfl rfl Tryd.underlying25 (E := 5) (k := .u8) (by' := 1) (by kernel_rfl) (by decide) (base := w.heap.size) (v := .slice (some ⟨wr.heap.size, 0, none⟩) 0 0) (l := []) (m := L.drop (16 * j)) rfl (by exact Own.fresh wr _ _ hKs) rfl (by simp) (by exact (by have h1 := (hS.alloc (.cells #[] 5)).sub (16 * j) (L.length - 16 * j) (by omega); rwa [List.take_of_length_le (by simp), Nat.zero_add] at h1)) (by simp; omega) (by simp; omega) ?_; intro v5 w5 hO5 hg5 _; rw [List.nil_append] at hO5; obtain ⟨R, hR⟩ : ∃ R, R = L.drop (16 * j) := ⟨_, rfl⟩; rw [← hR] at hO5; have HR := Lib.hid hR; clear hR; have hf := hO5.form; obtain ⟨p5, c5, rfl, _, _⟩ := hf; have hM5 := hfin _ _ hg5)
          go_ret
          obtain ⟨v', n', x1, x2, x3⟩ := hend _ _ _ HR hM5 hO5 ⟨_, hg5⟩
          first | exact ⟨rfl, v', ⟨n', x1⟩, x2, x3⟩ | exact ⟨rfl, v', n', x1, x2, x3⟩
attribute [irreducible] writeH writeL
end Go.Proofs.YtjieiijbgbkikaaDoor
end
