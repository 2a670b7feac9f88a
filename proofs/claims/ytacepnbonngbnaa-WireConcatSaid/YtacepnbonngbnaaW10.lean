/- For every string and list of integers, their encodings, written one after the other, are decoded one after the other; no condition. -/
import Derived.Test.YtacepnbonngbnaaK3
import Derived.Test.YtacepnbonngbnaaKD
import Derived.ProofKit
import Derived.OpenShut

set_option linter.unusedVariables false
set_option linter.unusedSimpArgs false
namespace Go.Proofs.Ytacepnbonngbnaa.wireConcat
open Go Go.AI Go.Proofs Go.Proofs.Ytacepnbonngbnaa

theorem own : ownKnob Try.prog.godebug = none := by kernel_rfl
theorem laidOut : laidOutB Try.prog = true := by kernel_rfl
theorem run (avs : List AV) (h : FitVs Try.prog Try.f10.params.toList avs) (bulk : Nat) (hb : bulkVs avs ≤ bulk) : RunsTo Try.prog 10 avs [] (.c (.bool true)) [] := by
  rw [Try.params10] at h
  obtain ⟨v0, r0, rfl, hv0, h0⟩ : ∃ v r, avs = v :: r ∧ FitV Try.prog 9 v ∧ FitVs Try.prog _ r := by
    cases avs with
    | nil => exact h.elim
    | cons v r => exact ⟨v, r, rfl, h.1, h.2⟩
  obtain ⟨v1, r1, rfl, hv1, h1⟩ : ∃ v r, r0 = v :: r ∧ FitV Try.prog 22 v ∧ FitVs Try.prog _ r := by
    cases r0 with
    | nil => exact h0.elim
    | cons v r => exact ⟨v, r, rfl, h0.1, h0.2⟩
  obtain rfl : r1 = [] := by
    cases r1 with
    | nil => rfl
    | cons v r => exact h1.elim
  obtain ⟨a0, rfl, w0⟩ := fitV_str Try.underlying9 hv0
  obtain ⟨a1, rfl, w1, y1⟩ := fitV_ints Try.underlying22 Try.underlying3 (by kernel_rfl) hv1
  simp only [bulkVs, bulkV, bulkC] at hb
  have hr : reachBytes ≤ 1000000000000000 := by decide
  exact T10 a0 a1 (by omega) (by omega) (fun x hx => wf_i64 (y1 x hx))
set_option maxRecDepth 100000 in
theorem lifted (os : Os) (started : os.Started) (H : Type) (enc : TypeId × Value → H) :
    ReturnsInHanded {} Try.checked os 10 .any (Rows.wireConcatSpec.pre6 enc Try.prog Try.f10 Rows.wireConcatRow.domain false) (Rows.wireConcatSpec.post enc Try.prog Try.f10 false true false false) := by
  refine returnsInHanded_of_change_sized (C := Try.checked) own started (by kernel_rfl) Try.func10
    (ChangeSpec.witness6 (enc := enc) (C := Try.checked) false ⟨#[], #[.string ByteArray.empty, .slice none 0 0], []⟩ 8 (by kernel_rfl) (by kernel_rfl) (by kernel_rfl) (by kernel_rfl)) ?_
  intro W base args ds gs before hval hW _ hsz _
  refine law_calls (base := base) laidOut Try.func10 rfl Try.underlying4 (fun t ht => by
    have e : (Try.f10.params.toList.all fun t => simpleB Try.prog 12 t && Try.prog.readableRec t && decide (t < Try.prog.types.size)) = true := by kernel_rfl
    have this : (simpleB Try.prog 12 t && Try.prog.readableRec t && decide (t < Try.prog.types.size)) = true := List.all_eq_true.1 e t ht
    rw [Bool.and_eq_true, Bool.and_eq_true, decide_eq_true_eq] at this
    exact ⟨this.1.1, this.1.2, this.2⟩) rfl (fun ds hd => by
    have hd : ds.length = 2 := hd
    match ds, hd with
    | [_, _], _ => rfl) hval hW hsz rfl fun avs h hb => ?_
  exact run avs h _ hb
theorem over : Rows.wireConcatRow.holds Try.pinned (OpenSpec.ofChange Rows.wireConcatSpec) :=
  OpenClaim.holds_of_wide 10 Try.f10 rfl rfl rfl rfl rfl rfl rfl ⟨rfl, rfl, rfl, rfl, rfl⟩ rfl rfl rfl rfl rfl (by kernel_rfl) Try.func10 (by kernel_rfl)
    (of_decide_eq_true (by kernel_rfl)) (by unfold Func.isWrapper; first | (rw [if_pos (by decide +kernel)]; kernel_rfl) | (rw [if_neg (by decide +kernel)]; exact ⟨rfl, rfl⟩))
    (fun os started H enc _ => lifted os started H enc)
end Go.Proofs.Ytacepnbonngbnaa.wireConcat
namespace Go.Proofs.Ytacepnbonngbnaa
/-- The statement. -/
theorem wireConcat_holds : Rows.WireConcatSaid := wireConcat.over
end Go.Proofs.Ytacepnbonngbnaa
