/- For every string, and every list of integers, strings and digests, decoding the encoding returns the value and the length of the encoding, whatever follows it; the condition: what comes in is of bulk at most 1048576. -/
import Derived.Test.YtacepnbonngbnaaK3
import Derived.Test.YtacepnbonngbnaaKC
import Derived.ProofKit
import Derived.OpenShut

set_option linter.unusedVariables false
set_option linter.unusedSimpArgs false
namespace Go.Proofs.Ytacepnbonngbnaa.wireListRoundTrip
open Go Go.AI Go.Proofs Go.Proofs.Ytacepnbonngbnaa

theorem own : ownKnob Try.prog.godebug = none := by kernel_rfl
theorem laidOut : laidOutB Try.prog = true := by kernel_rfl
theorem run (avs : List AV) (h : FitVs Try.prog Try.f8.params.toList avs) (bulk : Nat) (hb : bulkVs avs ≤ bulk) (hk : bulk ≤ 1048576) : RunsTo Try.prog 8 avs [] (.c (.bool true)) [] := by
  rw [Try.params8] at h
  obtain ⟨v0, r0, rfl, hv0, h0⟩ : ∃ v r, avs = v :: r ∧ FitV Try.prog 9 v ∧ FitVs Try.prog _ r := by
    cases avs with
    | nil => exact h.elim
    | cons v r => exact ⟨v, r, rfl, h.1, h.2⟩
  obtain ⟨v1, r1, rfl, hv1, h1⟩ : ∃ v r, r0 = v :: r ∧ FitV Try.prog 22 v ∧ FitVs Try.prog _ r := by
    cases r0 with
    | nil => exact h0.elim
    | cons v r => exact ⟨v, r, rfl, h0.1, h0.2⟩
  obtain ⟨v2, r2, rfl, hv2, h2⟩ : ∃ v r, r1 = v :: r ∧ FitV Try.prog 23 v ∧ FitVs Try.prog _ r := by
    cases r1 with
    | nil => exact h1.elim
    | cons v r => exact ⟨v, r, rfl, h1.1, h1.2⟩
  obtain ⟨v3, r3, rfl, hv3, h3⟩ : ∃ v r, r2 = v :: r ∧ FitV Try.prog 24 v ∧ FitVs Try.prog _ r := by
    cases r2 with
    | nil => exact h2.elim
    | cons v r => exact ⟨v, r, rfl, h2.1, h2.2⟩
  obtain ⟨v4, r4, rfl, hv4, h4⟩ : ∃ v r, r3 = v :: r ∧ FitV Try.prog 28 v ∧ FitVs Try.prog _ r := by
    cases r3 with
    | nil => exact h3.elim
    | cons v r => exact ⟨v, r, rfl, h3.1, h3.2⟩
  obtain rfl : r4 = [] := by
    cases r4 with
    | nil => rfl
    | cons v r => exact h4.elim
  obtain ⟨a0, rfl, w0⟩ := fitV_str Try.underlying9 hv0
  obtain ⟨a1, rfl, w1, y1⟩ := fitV_ints Try.underlying22 Try.underlying3 (by kernel_rfl) hv1
  obtain ⟨a2, rfl, w2, y2⟩ := fitV_strs Try.underlying23 Try.underlying9 (by kernel_rfl) hv2
  obtain ⟨a3, rfl, w3, y3⟩ := fitV_digests (k := 16) Try.underlying24 Try.underlying57 Try.underlying5 (by kernel_rfl) hv3
  obtain ⟨a4, rfl, w4⟩ := fitV_bytes Try.underlying28 Try.underlying5 (by kernel_rfl) hv4
  simp only [bulkVs, bulkV, bulkC] at hb
  have hb3 := bulk_strs a2
  have hr : reachBytes ≤ 1000000000000000 := by decide
  exact T8 a0 a1 a2 a3 a4 (by omega) (by omega) (by omega) (by simp only [tn, total]; omega) (by omega) (fun x hx => wf_i64 (y1 x hx)) y3
set_option maxRecDepth 100000 in
theorem lifted (os : Os) (started : os.Started) (H : Type) (enc : TypeId × Value → H) (F : Stop.Interp) :
    ReturnsInHanded {} Try.checked os 8 .any ((Rows.OpenSpec.upto Rows.wireListRoundTripSpec).pre6 enc Try.prog Try.f8 Rows.wireListRoundTripUptoRow.domain false) (((Rows.OpenSpec.upto Rows.wireListRoundTripSpec).at F).post enc Try.prog Try.f8 false true false false) := by
  refine returnsInHanded_of_cond_sized (C := Try.checked) (s := Rows.OpenSpec.upto Rows.wireListRoundTripSpec) (k := Rows.uptoSmall) rfl own started (by kernel_rfl) Try.func8
    (OpenSpec.witness (enc := enc) (C := Try.checked) (s := Rows.OpenSpec.upto Rows.wireListRoundTripSpec) (k := Rows.uptoSmall) rfl false ⟨#[], #[.string ByteArray.empty, .slice none 0 0, .slice none 0 0, .slice none 0 0, .slice none 0 0], []⟩ 8 (by kernel_rfl) (by kernel_rfl) (by kernel_rfl)
      (x := ([.lit (.string []), .nil, .nil, .nil, .nil], [], [])) (by kernel_rfl) rfl (by kernel_rfl)) ?_
  intro W base args ds gs before hval hW _ hk hsz _
  have hk2 : Rows.uptoBulkAll (ds ++ gs) ≤ 1048576 := of_decide_eq_true hk
  refine law_calls (base := base) laidOut Try.func8 rfl Try.underlying4 (fun t ht => by
    have e : (Try.f8.params.toList.all fun t => simpleB Try.prog 12 t && Try.prog.readableRec t && decide (t < Try.prog.types.size)) = true := by kernel_rfl
    have this : (simpleB Try.prog 12 t && Try.prog.readableRec t && decide (t < Try.prog.types.size)) = true := List.all_eq_true.1 e t ht
    rw [Bool.and_eq_true, Bool.and_eq_true, decide_eq_true_eq] at this
    exact ⟨this.1.1, this.1.2, this.2⟩) rfl (fun ds hd => by
    have hd : ds.length = 5 := hd
    match ds, hd with
    | [_, _, _, _, _], _ => rfl) hval hW hsz rfl fun avs h hb => ?_
  exact run avs h _ hb (by rw [bulk_append] at hk2; omega)
theorem over : Rows.wireListRoundTripUptoRow.holds Try.pinned (Rows.OpenSpec.upto Rows.wireListRoundTripSpec) :=
  OpenClaim.holds_of_cond 8 Try.f8 rfl rfl rfl rfl rfl rfl rfl ⟨rfl, rfl, rfl, rfl, rfl⟩ rfl rfl rfl rfl rfl (by kernel_rfl) Try.func8 (by kernel_rfl)
    (of_decide_eq_true (by kernel_rfl)) (by unfold Func.isWrapper; first | (rw [if_pos (by decide +kernel)]; kernel_rfl) | (rw [if_neg (by decide +kernel)]; exact ⟨rfl, rfl⟩))
    (fun os started H enc _ F => lifted os started H enc F)
end Go.Proofs.Ytacepnbonngbnaa.wireListRoundTrip
namespace Go.Proofs.Ytacepnbonngbnaa
/-- The statement. -/
theorem wireListRoundTrip_holds : Rows.WireListRoundTripUptoSaid := wireListRoundTrip.over
end Go.Proofs.Ytacepnbonngbnaa
