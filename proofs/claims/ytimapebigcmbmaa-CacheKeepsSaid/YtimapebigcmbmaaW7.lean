/- For every room and every list of operations that come in, the cache keeps what it has room for; no condition. -/
import Derived.Test.YtimapebigcmbmaaK7
import Derived.Test.YtimapebigcmbmaaL7
import Derived.ProofKit
import Derived.OpenShut

set_option linter.unusedVariables false
set_option linter.unusedSimpArgs false
namespace Go.Proofs.Ytimapebigcmbmaa.cacheKeeps
open Go Go.AI Go.Proofs Go.Proofs.Ytimapebigcmbmaa

theorem own : ownKnob Try.prog.godebug = none := by kernel_rfl
theorem laidOut : laidOutB Try.prog = true := by kernel_rfl
theorem run (avs : List AV) (h : FitVs Try.prog Try.f7.params.toList avs) (bulk : Nat) (hb : bulkVs avs ≤ bulk) : RunsTo Try.prog 7 avs [] (.c (.bool true)) [] := by
  rw [Try.params7] at h
  obtain ⟨v0, r0, rfl, hv0, h0⟩ : ∃ v r, avs = v :: r ∧ FitV Try.prog 3 v ∧ FitVs Try.prog _ r := by
    cases avs with
    | nil => exact h.elim
    | cons v r => exact ⟨v, r, rfl, h.1, h.2⟩
  obtain ⟨v1, r1, rfl, hv1, h1⟩ : ∃ v r, r0 = v :: r ∧ FitV Try.prog 42 v ∧ FitVs Try.prog _ r := by
    cases r0 with
    | nil => exact h0.elim
    | cons v r => exact ⟨v, r, rfl, h0.1, h0.2⟩
  obtain rfl : r1 = [] := by
    cases r1 with
    | nil => rfl
    | cons v r => exact h1.elim
  obtain ⟨a0, rfl, w0⟩ := fitV_int Try.underlying3 hv0
  simp only [bulkVs, bulkV, bulkC] at hb
  obtain ⟨l, rfl, ho⟩ := fitV_ops hv1
  exact T7 a0 (wf_i64 w0) l ho
set_option maxRecDepth 100000 in
theorem lifted (os : Os) (started : os.Started) (H : Type) (enc : TypeId × Value → H) :
    ReturnsInHanded {} Try.checked os 7 .any (Rows.cacheKeepsSpec.pre6 enc Try.prog Try.f7 Rows.cacheKeepsRow.domain false) (Rows.cacheKeepsSpec.post enc Try.prog Try.f7 false true false false) := by
  refine returnsInHanded_of_change_sized (C := Try.checked) own started (by kernel_rfl) Try.func7
    (ChangeSpec.witness6 (enc := enc) (C := Try.checked) false ⟨#[], #[.int .i64 0, .slice none 0 0], []⟩ 8 (by kernel_rfl) (by kernel_rfl) (by kernel_rfl) (by kernel_rfl)) ?_
  intro W base args ds gs before hval hW _ hsz _
  refine law_calls (base := base) laidOut Try.func7 rfl Try.underlying4 (fun t ht => by
    have e : (Try.f7.params.toList.all fun t => simpleB Try.prog 12 t && Try.prog.readableRec t && decide (t < Try.prog.types.size)) = true := by kernel_rfl
    have this : (simpleB Try.prog 12 t && Try.prog.readableRec t && decide (t < Try.prog.types.size)) = true := List.all_eq_true.1 e t ht
    rw [Bool.and_eq_true, Bool.and_eq_true, decide_eq_true_eq] at this
    exact ⟨this.1.1, this.1.2, this.2⟩) rfl (fun ds hd => by
    have hd : ds.length = 2 := hd
    match ds, hd with
    | [_, _], _ => rfl) hval hW hsz rfl fun avs h hb => ?_
  exact run avs h _ hb
theorem over : Rows.cacheKeepsRow.holds Try.pinned (OpenSpec.ofChange Rows.cacheKeepsSpec) :=
  OpenClaim.holds_of_wide 7 Try.f7 rfl rfl rfl rfl rfl rfl rfl ⟨rfl, rfl, rfl, rfl, rfl⟩ rfl rfl rfl rfl rfl (by kernel_rfl) Try.func7 (by kernel_rfl)
    (of_decide_eq_true (by kernel_rfl)) (by unfold Func.isWrapper; first | (rw [if_pos (by decide +kernel)]; kernel_rfl) | (rw [if_neg (by decide +kernel)]; exact ⟨rfl, rfl⟩))
    (fun os started H enc _ => lifted os started H enc)
end Go.Proofs.Ytimapebigcmbmaa.cacheKeeps
namespace Go.Proofs.Ytimapebigcmbmaa
/-- The statement. -/
theorem cacheKeeps_holds : Rows.CacheKeepsSaid := cacheKeeps.over
end Go.Proofs.Ytimapebigcmbmaa
