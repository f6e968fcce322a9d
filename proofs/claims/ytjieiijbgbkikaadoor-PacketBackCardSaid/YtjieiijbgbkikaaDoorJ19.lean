/- Lemmas of a proof over the given program, joined by wip/join.py: KRowB. -/
import Derived.Test.YtjieiijbgbkikaaDoorJ13
import Derived.Test.YtjieiijbgbkikaaDoorJ14
import Derived.Test.YtjieiijbgbkikaaDoorJ18
set_option linter.unusedSimpArgs false
set_option linter.unusedVariables false
section
/- Law 9: PacketBack, the row and the card. -/
namespace Go.Proofs.YtjieiijbgbkikaaDoor
open Go Go.RowKit Go.ChangeShapes Go.WideShapes Go.ChangeAt
set_option maxRecDepth 100000
theorem lifted_packetBack (os : Os) (started : os.Started) (H : Type) (enc : TypeId × Value → H) :
    ReturnsInHanded {} Tryd.checked os 6 .any (fun w args => (Rows.packetBackSpec.pre enc Tryd.prog Tryd.f6 [] false w args ∧ laidMetH Tryd.prog laid2 w) ∧ sizedMet enc Tryd.prog Tryd.f6 (OpenSpec.ofChange Rows.packetBackSpec) false w args)
      (Rows.packetBackSpec.post enc Tryd.prog Tryd.f6 false true false false) := by
  refine returnsInHanded_of_change_and (C := Tryd.checked) (X := fun w _ => laidMetH Tryd.prog laid2 w) (fun _ _ _ hh h => h.of_heap hh) own started (by kernel_rfl) Tryd.func6
    (ChangeSpec.witness_shaped (enc := enc) (C := Tryd.checked) (os := os) (X := fun w _ => laidMetH Tryd.prog laid2 w) false (World.doorLaid Tryd.prog 400 os) #[.agg (pktC pkt0 (.slice none 0 0)), .slice none 0 0, .agg (ints .u8 (List.replicate 32 0)), .int .i64 0, .slice none 0 0] 8 rfl (World.shaped_of_RefB (by kernel_rfl) (by kernel_rfl)) (by kernel_rfl) (by kernel_rfl) (by kernel_rfl) (door_met os _)) ?_
  intro W base args ds gs before hval0 hW _ hwt hL _
  have hW' := hW
  obtain ⟨p, q, hA0, hV, rfl, hfz, hnd⟩ := hW
  have hA : DataW.TrodAll enc Tryd.prog W 0 (fun _ => true) true Tryd.f6.params.toList args.toList ds p := hA0
  rw [Tryd.params6] at hA
  obtain ⟨rfl, rfl⟩ := trodVars_none hV
  obtain ⟨v0, vs0, d0, ds0, p0, q0, hargs, hds, hps, hj0, hr0⟩ := trodAll_cons hA
  obtain ⟨v1, vs1, d1, ds1, p1, q1, rfl, rfl, rfl, hj1, hr1⟩ := trodAll_cons hr0
  obtain ⟨v2, vs2, d2, ds2, p2, q2, rfl, rfl, rfl, hj2, hr2⟩ := trodAll_cons hr1
  obtain ⟨v3, vs3, d3, ds3, p3, q3, rfl, rfl, rfl, hj3, hr3⟩ := trodAll_cons hr2
  obtain ⟨v4, vs4, d4, ds4, p4, q4, rfl, rfl, rfl, hj4, hr4⟩ := trodAll_cons hr3
  obtain ⟨rfl, rfl, rfl⟩ := trodAll_nil hr4
  obtain rfl : args = #[v0, v1, v2, v3, v4] := Array.ext' hargs
  subst hds
  have hval := fun (j : Nat) (t : TypeId) (v : Value) (h1 : (#[27, 25, 31, 3, 25] : Array TypeId)[j]? = some t) (h2 : (#[v0, v1, v2, v3, v4] : Array Value)[j]? = some v) => hval0 j t v (by rw [Tryd.params6]; exact h1) h2
  obtain ⟨hR, hC⟩ := of_laid hL
  obtain ⟨x, x_p, x_m, x_c, rfl, x_ok, x_k, x_pe, x_B, x_S, x_le⟩ := open_pkt (hval 0 _ _ rfl rfl) hj0
  obtain ⟨l_p, l, l_c, rfl, l_B, l_S, l_le⟩ := open_bytes Tryd.underlying25 Tryd.underlying5 (by kernel_rfl) (hval 1 _ _ rfl rfl) hj1
  obtain ⟨sec, rfl, sec_l, sec_B⟩ := open_arr (n := 32) Tryd.underlying31 Tryd.underlying5 (by kernel_rfl) (by kernel_rfl) (hval 2 _ _ rfl rfl) hj2
  obtain ⟨way, rfl, _, _, wf_way⟩ := open_int Tryd.underlying3 (hval 3 _ _ rfl rfl) hj3
  have bd_way := bounds_i64 wf_way
  obtain ⟨n_p, n, n_c, rfl, n_B, n_S, n_le⟩ := open_bytes Tryd.underlying25 Tryd.underlying5 (by kernel_rfl) (hval 4 _ _ rfl rfl) hj4
  have hlt : ∀ x ∈ p, x.block < W.heap.size := fun x hx => by simpa using hW'.lt x (by simp [hx])
  refine (back9_any x x_ok x_m x_p x_c x_B x_le l l_p l_c l_B sec sec_l sec_B way n n_p n_c n_B W hR hC x_S l_S n_S).mono fun e W' ⟨he, hB⟩ => ?_
  subst he
  refine ⟨_, rfl, [d0, d1, d2, d3, d4], [], p ++ [], [], p, [], hW', ?_, ?_, ?_, hB.frame _, fun h => by cases h⟩
  · exact trodAll_mk1 (shut_bool Tryd.underlying4 _)
  · exact below_trodAll (by kernel_rfl) hB _ _ _ _ (by kernel_rfl) hA0 hlt
  · exact hV
theorem packetBack_holds : Rows.PacketBackSaid :=
  OpenClaim.holds_of_wide 6 Tryd.f6 rfl rfl rfl rfl rfl rfl rfl ⟨rfl, rfl, rfl, rfl, rfl⟩ rfl rfl rfl rfl rfl (by kernel_rfl) Tryd.func6 (by kernel_rfl)
    (of_decide_eq_true (by kernel_rfl)) (by unfold Func.isWrapper; first | (rw [if_pos (by decide +kernel)]; kernel_rfl) | (rw [if_neg (by decide +kernel)]; exact ⟨rfl, rfl⟩))
    (fun os started H enc _ => lifted_packetBack os started H enc)
theorem packetBack_card_holds : Rows.PacketBackCardSaid :=
  Claim7.holds_tied_plain_at .later [] [.data, .data] true (true, "e49d9dadfad7a1d54a3a799f28c2b472b127b6977e7d1f71cd2397dfd9d93cdf") false
    packetBack_holds (fun _ h => by cases h) (by kernel_rfl) (fun _ h => by cases h) packetBack_row_tie rfl ⟨rfl, rfl⟩ (by kernel_rfl) rfl
    (fun f fn hf hfn => by
      obtain rfl : f = 6 := Option.some.inj ((show Tryd.prog.funcNamed "drawbridge/drawbridgelaw09.PacketBack" = some 6 by kernel_rfl).symm.trans hf) |>.symm
      obtain rfl : fn = Tryd.f6 := (Option.some.inj (Tryd.func6.symm.trans hfn)).symm
      exact ⟨by kernel_rfl, noStand (by rw [Tryd.params6]; kernel_rfl)⟩)
    (by kernel_rfl)
#print axioms packetBack_card_holds
end Go.Proofs.YtjieiijbgbkikaaDoor
end
