/- For every cache, operation and room that come in, what the operation makes is what the specification makes; no condition. -/
import Derived.Test.YtimapebigcmbmaaK7
import Derived.Test.YtimapebigcmbmaaL3
import Derived.ProofKit
import Derived.OpenShut

set_option linter.unusedVariables false
set_option linter.unusedSimpArgs false
namespace Go.Proofs.Ytimapebigcmbmaa.cacheMatchesSpec
open Go Go.AI Go.Proofs Go.Proofs.Ytimapebigcmbmaa

theorem own : ownKnob Try.prog.godebug = none := by kernel_rfl
theorem laidOut : laidOutB Try.prog = true := by kernel_rfl
theorem run (avs : List AV) (h : FitVs Try.prog Try.f3.params.toList avs) (bulk : Nat) (hb : bulkVs avs ≤ bulk) : RunsTo Try.prog 3 avs [] (.c (.bool true)) [] := by
  rw [Try.params3] at h
  obtain ⟨v0, r0, rfl, hv0, h0⟩ : ∃ v r, avs = v :: r ∧ FitV Try.prog 24 v ∧ FitVs Try.prog _ r := by
    cases avs with
    | nil => exact h.elim
    | cons v r => exact ⟨v, r, rfl, h.1, h.2⟩
  obtain ⟨v1, r1, rfl, hv1, h1⟩ : ∃ v r, r0 = v :: r ∧ FitV Try.prog 28 v ∧ FitVs Try.prog _ r := by
    cases r0 with
    | nil => exact h0.elim
    | cons v r => exact ⟨v, r, rfl, h0.1, h0.2⟩
  obtain ⟨v2, r2, rfl, hv2, h2⟩ : ∃ v r, r1 = v :: r ∧ FitV Try.prog 3 v ∧ FitVs Try.prog _ r := by
    cases r1 with
    | nil => exact h1.elim
    | cons v r => exact ⟨v, r, rfl, h1.1, h1.2⟩
  obtain rfl : r2 = [] := by
    cases r2 with
    | nil => rfl
    | cons v r => exact h2.elim
  obtain ⟨a2, rfl, w2⟩ := fitV_int Try.underlying3 hv2
  simp only [bulkVs, bulkV, bulkC] at hb
  obtain ⟨cs0, rfl, f0⟩ := fitV_struct Try.underlying24 hv0
  obtain ⟨cs1, rfl, f1⟩ := fitV_struct Try.underlying28 hv1
  obtain ⟨c, rfl, c1, c2, c3⟩ := cache_of f0
  obtain ⟨o, rfl, ho⟩ := op_of f1
  exact T3 c o a2 c1 c2 c3 ho (wf_i64 w2)
set_option maxRecDepth 100000 in
theorem lifted (os : Os) (started : os.Started) (H : Type) (enc : TypeId × Value → H) :
    ReturnsInHanded {} Try.checked os 3 .any (Rows.cacheMatchesSpecSpec.pre6 enc Try.prog Try.f3 Rows.cacheMatchesSpecRow.domain false) (Rows.cacheMatchesSpecSpec.post enc Try.prog Try.f3 false true false false) := by
  refine returnsInHanded_of_change_sized (C := Try.checked) own started (by kernel_rfl) Try.func3
    (ChangeSpec.witness6 (enc := enc) (C := Try.checked) false ⟨#[], #[.agg #[.int .i64 0, .int .i64 0, .slice none 0 0], .agg #[.int .u8 0, .int .i64 0, .int .i64 0, .int .i64 0, .int .i64 0, .string ByteArray.empty, .int .i64 0, .int .i64 0, .int .i64 0], .int .i64 0], []⟩ 8 (by kernel_rfl) (by kernel_rfl) (by kernel_rfl) (by kernel_rfl)) ?_
  intro W base args ds gs before hval hW _ hsz _
  refine law_calls (base := base) laidOut Try.func3 rfl Try.underlying4 (fun t ht => by
    have e : (Try.f3.params.toList.all fun t => simpleB Try.prog 12 t && Try.prog.readableRec t && decide (t < Try.prog.types.size)) = true := by kernel_rfl
    have this : (simpleB Try.prog 12 t && Try.prog.readableRec t && decide (t < Try.prog.types.size)) = true := List.all_eq_true.1 e t ht
    rw [Bool.and_eq_true, Bool.and_eq_true, decide_eq_true_eq] at this
    exact ⟨this.1.1, this.1.2, this.2⟩) rfl (fun ds hd => by
    have hd : ds.length = 3 := hd
    match ds, hd with
    | [_, _, _], _ => rfl) hval hW hsz rfl fun avs h hb => ?_
  exact run avs h _ hb
theorem over : Rows.cacheMatchesSpecRow.holds Try.pinned (OpenSpec.ofChange Rows.cacheMatchesSpecSpec) :=
  OpenClaim.holds_of_wide 3 Try.f3 rfl rfl rfl rfl rfl rfl rfl ⟨rfl, rfl, rfl, rfl, rfl⟩ rfl rfl rfl rfl rfl (by kernel_rfl) Try.func3 (by kernel_rfl)
    (of_decide_eq_true (by kernel_rfl)) (by unfold Func.isWrapper; first | (rw [if_pos (by decide +kernel)]; kernel_rfl) | (rw [if_neg (by decide +kernel)]; exact ⟨rfl, rfl⟩))
    (fun os started H enc _ => lifted os started H enc)
end Go.Proofs.Ytimapebigcmbmaa.cacheMatchesSpec
namespace Go.Proofs.Ytimapebigcmbmaa
/-- The statement. -/
theorem cacheMatchesSpec_holds : Rows.CacheMatchesSpecSaid := cacheMatchesSpec.over
end Go.Proofs.Ytimapebigcmbmaa
