/- Lemmas of a proof over the given program, joined by wip/join.py: KRowF. -/
import Derived.Test.YtjieiijbgbkikaaDoorJ13
import Derived.Test.YtjieiijbgbkikaaDoorJ14
import Derived.Test.YtjieiijbgbkikaaDoorJ16
set_option linter.unusedSimpArgs false
set_option linter.unusedVariables false
section
/- Law 9: PacketFields, the row and the card. -/
namespace Go.Proofs.YtjieiijbgbkikaaDoor
open Go Go.RowKit Go.ChangeShapes Go.WideShapes Go.ChangeAt
set_option maxRecDepth 100000
theorem lifted_packetFields (os : Os) (started : os.Started) (H : Type) (enc : TypeId × Value → H) :
    ReturnsInHanded {} Tryd.checked os 5 .any (fun w args => (Rows.packetFieldsSpec.pre enc Tryd.prog Tryd.f5 [] false w args ∧ laidMetH Tryd.prog laid2 w) ∧ sizedMet enc Tryd.prog Tryd.f5 (OpenSpec.ofChange Rows.packetFieldsSpec) false w args)
      (Rows.packetFieldsSpec.post enc Tryd.prog Tryd.f5 false true false false) := by
  refine returnsInHanded_of_change_and (C := Tryd.checked) (X := fun w _ => laidMetH Tryd.prog laid2 w) (fun _ _ _ hh h => h.of_heap hh) own started (by kernel_rfl) Tryd.func5
    (ChangeSpec.witness_shaped (enc := enc) (C := Tryd.checked) (os := os) (X := fun w _ => laidMetH Tryd.prog laid2 w) false (World.doorLaid Tryd.prog 400 os) #[.agg (pktC pkt0 (.slice none 0 0)), .agg (pktC pkt0 (.slice none 0 0))] 8 rfl (World.shaped_of_RefB (by kernel_rfl) (by kernel_rfl)) (by kernel_rfl) (by kernel_rfl) (by kernel_rfl) (door_met os _)) ?_
  intro W base args ds gs before hval0 hW _ hwt hL _
  have hW' := hW
  obtain ⟨p, q, hA0, hV, rfl, hfz, hnd⟩ := hW
  have hA : DataW.TrodAll enc Tryd.prog W 0 (fun _ => true) true Tryd.f5.params.toList args.toList ds p := hA0
  rw [Tryd.params5] at hA
  obtain ⟨rfl, rfl⟩ := trodVars_none hV
  obtain ⟨v0, vs0, d0, ds0, p0, q0, hargs, hds, hps, hj0, hr0⟩ := trodAll_cons hA
  obtain ⟨v1, vs1, d1, ds1, p1, q1, rfl, rfl, rfl, hj1, hr1⟩ := trodAll_cons hr0
  obtain ⟨rfl, rfl, rfl⟩ := trodAll_nil hr1
  obtain rfl : args = #[v0, v1] := Array.ext' hargs
  subst hds
  have hval := fun (j : Nat) (t : TypeId) (v : Value) (h1 : (#[27, 27] : Array TypeId)[j]? = some t) (h2 : (#[v0, v1] : Array Value)[j]? = some v) => hval0 j t v (by rw [Tryd.params5]; exact h1) h2
  obtain ⟨hR, hC⟩ := of_laid hL
  obtain ⟨x, x_p, x_m, x_c, rfl, x_ok, x_k, x_pe, x_B, x_S, x_le⟩ := open_pkt (hval 0 _ _ rfl rfl) hj0
  obtain ⟨y, y_p, y_m, y_c, rfl, y_ok, y_k, y_pe, y_B, y_S, y_le⟩ := open_pkt (hval 1 _ _ rfl rfl) hj1
  have hlt : ∀ x ∈ p, x.block < W.heap.size := fun x hx => by simpa using hW'.lt x (by simp [hx])
  refine (fields9_any x x_ok x_m x_p x_c y y_ok y_m y_p y_c W hR hC).mono fun e W' ⟨he, hB⟩ => ?_
  subst he
  refine ⟨_, rfl, [d0, d1], [], p ++ [], [], p, [], hW', ?_, ?_, ?_, hB.frame _, fun h => by cases h⟩
  · exact trodAll_mk1 (shut_bool Tryd.underlying4 _)
  · exact below_trodAll (by kernel_rfl) hB _ _ _ _ (by kernel_rfl) hA0 hlt
  · exact hV
theorem packetFields_holds : Rows.PacketFieldsSaid :=
  OpenClaim.holds_of_wide 5 Tryd.f5 rfl rfl rfl rfl rfl rfl rfl ⟨rfl, rfl, rfl, rfl, rfl⟩ rfl rfl rfl rfl rfl (by kernel_rfl) Tryd.func5 (by kernel_rfl)
    (of_decide_eq_true (by kernel_rfl)) (by unfold Func.isWrapper; first | (rw [if_pos (by decide +kernel)]; kernel_rfl) | (rw [if_neg (by decide +kernel)]; exact ⟨rfl, rfl⟩))
    (fun os started H enc _ => lifted_packetFields os started H enc)
theorem packetFields_card_holds : Rows.PacketFieldsCardSaid :=
  Claim7.holds_tied_plain_at .later [] [.data, .data] true (true, "e49d9dadfad7a1d54a3a799f28c2b472b127b6977e7d1f71cd2397dfd9d93cdf") false
    packetFields_holds (fun _ h => by cases h) (by kernel_rfl) (fun _ h => by cases h) packetFields_row_tie rfl ⟨rfl, rfl⟩ (by kernel_rfl) rfl
    (fun f fn hf hfn => by
      obtain rfl : f = 5 := Option.some.inj ((show Tryd.prog.funcNamed "drawbridge/drawbridgelaw09.PacketFields" = some 5 by kernel_rfl).symm.trans hf) |>.symm
      obtain rfl : fn = Tryd.f5 := (Option.some.inj (Tryd.func5.symm.trans hfn)).symm
      exact ⟨by kernel_rfl, noStand (by rw [Tryd.params5]; kernel_rfl)⟩)
    (by kernel_rfl)
#print axioms packetFields_card_holds
end Go.Proofs.YtjieiijbgbkikaaDoor
end
