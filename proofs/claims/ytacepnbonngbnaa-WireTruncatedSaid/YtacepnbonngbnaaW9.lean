/- For every integer, string, and list of integers, strings and digests, every proper prefix of the encoding yields the error that it is truncated; no condition. -/
import Derived.Test.YtacepnbonngbnaaK3
import Derived.Test.YtacepnbonngbnaaL9
import Derived.ProofKit
import Derived.OpenShut

set_option linter.unusedVariables false
set_option linter.unusedSimpArgs false
namespace Go.Proofs.Ytacepnbonngbnaa.wireTruncated
open Go Go.AI Go.Proofs Go.Proofs.Ytacepnbonngbnaa

theorem own : ownKnob Try.prog.godebug = none := by kernel_rfl
theorem laidOut : laidOutB Try.prog = true := by kernel_rfl
theorem run (avs : List AV) (h : FitVs Try.prog Try.f9.params.toList avs) (bulk : Nat) (hb : bulkVs avs ≤ bulk) : RunsTo Try.prog 9 avs [] (.c (.bool true)) [] := by
  rw [Try.params9] at h
  obtain ⟨v0, r0, rfl, hv0, h0⟩ : ∃ v r, avs = v :: r ∧ FitV Try.prog 3 v ∧ FitVs Try.prog _ r := by
    cases avs with
    | nil => exact h.elim
    | cons v r => exact ⟨v, r, rfl, h.1, h.2⟩
  obtain ⟨v1, r1, rfl, hv1, h1⟩ : ∃ v r, r0 = v :: r ∧ FitV Try.prog 9 v ∧ FitVs Try.prog _ r := by
    cases r0 with
    | nil => exact h0.elim
    | cons v r => exact ⟨v, r, rfl, h0.1, h0.2⟩
  obtain ⟨v2, r2, rfl, hv2, h2⟩ : ∃ v r, r1 = v :: r ∧ FitV Try.prog 22 v ∧ FitVs Try.prog _ r := by
    cases r1 with
    | nil => exact h1.elim
    | cons v r => exact ⟨v, r, rfl, h1.1, h1.2⟩
  obtain ⟨v3, r3, rfl, hv3, h3⟩ : ∃ v r, r2 = v :: r ∧ FitV Try.prog 23 v ∧ FitVs Try.prog _ r := by
    cases r2 with
    | nil => exact h2.elim
    | cons v r => exact ⟨v, r, rfl, h2.1, h2.2⟩
  obtain ⟨v4, r4, rfl, hv4, h4⟩ : ∃ v r, r3 = v :: r ∧ FitV Try.prog 24 v ∧ FitVs Try.prog _ r := by
    cases r3 with
    | nil => exact h3.elim
    | cons v r => exact ⟨v, r, rfl, h3.1, h3.2⟩
  obtain rfl : r4 = [] := by
    cases r4 with
    | nil => rfl
    | cons v r => exact h4.elim
  obtain ⟨a0, rfl, w0⟩ := fitV_int Try.underlying3 hv0
  obtain ⟨a1, rfl, w1⟩ := fitV_str Try.underlying9 hv1
  obtain ⟨a2, rfl, w2, y2⟩ := fitV_ints Try.underlying22 Try.underlying3 (by kernel_rfl) hv2
  obtain ⟨a3, rfl, w3, y3⟩ := fitV_strs Try.underlying23 Try.underlying9 (by kernel_rfl) hv3
  obtain ⟨a4, rfl, w4, y4⟩ := fitV_digests (k := 16) Try.underlying24 Try.underlying57 Try.underlying5 (by kernel_rfl) hv4
  simp only [bulkVs, bulkV, bulkC] at hb
  have hr : reachBytes ≤ 1000000000000000 := by decide
  exact T9 a0 a1 a2 a3 a4 (by omega) (by omega) (by omega) (by omega) (wf_i64 w0) (fun x hx => wf_i64 (y2 x hx)) (fun y hy => by have := y3 y hy; omega) y4
set_option maxRecDepth 100000 in
theorem lifted (os : Os) (started : os.Started) (H : Type) (enc : TypeId × Value → H) :
    ReturnsInHanded {} Try.checked os 9 .any (Rows.wireTruncatedSpec.pre6 enc Try.prog Try.f9 Rows.wireTruncatedRow.domain false) (Rows.wireTruncatedSpec.post enc Try.prog Try.f9 false true false false) := by
  refine returnsInHanded_of_change_sized (C := Try.checked) own started (by kernel_rfl) Try.func9
    (ChangeSpec.witness6 (enc := enc) (C := Try.checked) false ⟨#[], #[.int .i64 0, .string ByteArray.empty, .slice none 0 0, .slice none 0 0, .slice none 0 0], []⟩ 8 (by kernel_rfl) (by kernel_rfl) (by kernel_rfl) (by kernel_rfl)) ?_
  intro W base args ds gs before hval hW _ hsz _
  refine law_calls (base := base) laidOut Try.func9 rfl Try.underlying4 (fun t ht => by
    have e : (Try.f9.params.toList.all fun t => simpleB Try.prog 12 t && Try.prog.readableRec t && decide (t < Try.prog.types.size)) = true := by kernel_rfl
    have this : (simpleB Try.prog 12 t && Try.prog.readableRec t && decide (t < Try.prog.types.size)) = true := List.all_eq_true.1 e t ht
    rw [Bool.and_eq_true, Bool.and_eq_true, decide_eq_true_eq] at this
    exact ⟨this.1.1, this.1.2, this.2⟩) rfl (fun ds hd => by
    have hd : ds.length = 5 := hd
    match ds, hd with
    | [_, _, _, _, _], _ => rfl) hval hW hsz rfl fun avs h hb => ?_
  exact run avs h _ hb
theorem over : Rows.wireTruncatedRow.holds Try.pinned (OpenSpec.ofChange Rows.wireTruncatedSpec) :=
  OpenClaim.holds_of_wide 9 Try.f9 rfl rfl rfl rfl rfl rfl rfl ⟨rfl, rfl, rfl, rfl, rfl⟩ rfl rfl rfl rfl rfl (by kernel_rfl) Try.func9 (by kernel_rfl)
    (of_decide_eq_true (by kernel_rfl)) (by unfold Func.isWrapper; first | (rw [if_pos (by decide +kernel)]; kernel_rfl) | (rw [if_neg (by decide +kernel)]; exact ⟨rfl, rfl⟩))
    (fun os started H enc _ => lifted os started H enc)
end Go.Proofs.Ytacepnbonngbnaa.wireTruncated
namespace Go.Proofs.Ytacepnbonngbnaa
/-- The statement. -/
theorem wireTruncated_holds : Rows.WireTruncatedSaid := wireTruncated.over
end Go.Proofs.Ytacepnbonngbnaa
