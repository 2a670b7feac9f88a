/- A part of the proofs: a verified symbolic execution of Go's code, and what each function of the program computes; no conditions of its own. -/
import Derived.Test.YtimapebigcmbmaaL4

set_option linter.unusedVariables false
set_option linter.unusedSimpArgs false
namespace Go.Proofs.Ytimapebigcmbmaa
open Go Go.AI Go.Proofs

theorem doM_err {c : Cache} {o : Op} (h : (doM c o).e ≠ 0) : (doM c o).c = c := by
  unfold doM at *
  split at h
  · rw [if_pos (by assumption)]
    simp only [refTick, tick] at *
    split at h <;> (try rw [if_pos (by assumption)])
    · rename_i h1; rw [if_neg h1]
      split at h <;> (try rw [if_pos (by assumption)])
      · rename_i h2; rw [if_neg h2]
        split at h <;> (try rw [if_pos (by assumption)])
        · exact absurd rfl h
  · rw [if_neg (by assumption)]
    split at h
    · rw [if_pos (by assumption)]
      simp only [refPut, put] at *
      split at h <;> (try rw [if_pos (by assumption)])
      rename_i h1; rw [if_neg h1]
      split at h <;> (try rw [if_pos (by assumption)])
      rename_i h2; rw [if_neg h2]
      split at h <;> (try rw [if_pos (by assumption)])
      rename_i h3; rw [if_neg h3]
      split at h <;> (try rw [if_pos (by assumption)])
      rename_i h4; rw [if_neg h4]
      split at h <;> (try rw [if_pos (by assumption)])
      exact absurd rfl h
    · rw [if_neg (by assumption)]
      split at h
      · rw [if_pos (by assumption)]
        simp only [refGet, get] at *
        split at h
        · rw [if_pos (by assumption)]
        · rename_i h1; rw [if_neg h1]
          cases hi : idx o.k.object o.k.chunk c.items with
          | none => rfl
          | some i =>
            rw [hi] at h
            simp only at h ⊢
            cases hx : c.items[i]? with
            | none => rfl
            | some x =>
              rw [hx] at h
              simp only at h ⊢
              split at h
              · rw [if_pos (by assumption)]
              · exact absurd rfl h
      · rw [if_neg (by assumption)]
        simp only [refForget, forget] at *
        split at h
        · rw [if_pos (by assumption)]
        · exact absurd rfl h
theorem doM_room (c : Cache) (o : Op) : (doM c o).c.room = c.room := by
  unfold doM
  split
  · simp only [refTick, tick]; (repeat' split) <;> rfl
  · split
    · simp only [refPut, put]; (repeat' split) <;> rfl
    · split
      · simp only [refGet, get]; (repeat' split) <;> rfl
      · simp only [refForget, forget]; (repeat' split) <;> rfl
theorem doM_forget {c : Cache} {o : Op} {n : Nat} (h : Inv c n) (hk0 : 0 ≤ o.kind) (hk : o.kind.tmod 4 = 3) : ∀ x ∈ (doM c o).c.items, x.object ≠ o.k.object := by
  intro x hx
  have hc := good_check h.good
  unfold doM at hx
  rw [if_neg (by omega), if_neg (by omega), if_neg (by omega)] at hx
  simp only [refForget, forget] at hx
  rw [if_neg (by simpa using hc)] at hx
  simp only at hx
  obtain ⟨_, h2⟩ := List.mem_filter.1 hx
  simpa using h2
end Go.Proofs.Ytimapebigcmbmaa

set_option linter.unusedVariables false
set_option linter.unusedSimpArgs false
namespace Go.Proofs.Ytimapebigcmbmaa
open Go Go.AI Go.Proofs

theorem I5 (room : Int) (all : List Op) (m : Nat) (o : Op) (hm : (rowsO all)[m]? = some o.enc) (hmn : m ≤ 1000000) (c : Cache) (X : List Blk) (hn : c.items.length ≤ 1000000) (ht : tot c.items ≤ 1000000000000000)
    (hlast : ∀ x ∈ c.items, ¬ x.last < c.now) (hkind : o.kind.tmod 4 = 3 → ∀ x ∈ c.items, x.object ≠ o.k.object) (hk : 0 ≤ o.kind ∧ o.kind < 256) (K : AX → State → Prop)
    (hK : ∀ j, K (.x 2) ⟨[(0, .c (.int .i64 room)), (1, .c (.list 0 9 (rowsO all))), (5, .c (.ptr (some (0, 0)))), (7, .c (.int .i64 m)), (9, .c (.int .i64 (tot c.items))), (10, .c (.int .i64 j)), (65, .c (.bool false))], .cells c.enc :: X⟩) :
    ∀ (post pre : List Kept), pre ++ post = c.items → (IR.loop [] i5_L0).go Try.prog ⟨[(0, .c (.int .i64 room)), (1, .c (.list 0 9 (rowsO all))), (5, .c (.ptr (some (0, 0)))), (7, .c (.int .i64 m)), (9, .c (.int .i64 (tot pre))), (10, .c (.int .i64 pre.length))], .cells c.enc :: X⟩ K := by
  intro post
  induction post with
  | nil =>
    intro pre hp
    have hl : c.items.length = pre.length := by rw [← hp]; simp
    have hl2 : tot pre = tot c.items := by rw [← hp]; simp
    simp only [Cache.enc] at hK
    refine go_loop fun L hL => ?_
    clear hlast hkind
    simp -implicitDefEqProofs (disch := omega) only [i5_0, i5_1, i5_2, i5_3, i5_4, i5_5, i5_6, i5_7, i5_8, i5_9, i5_10, i5_11, i5_12, i5_13, i5_14, i5_15, i5_16, i5_17, i5_18, i5_19, i5_20, i5_K0, i5_K1, i5_K2, i5, i5_L0, rowsK_len, hl, hl2, Cache.enc, zS, State.step, State.pure, State.pure.capsOf, arrGo, State.ghosts, State.ghost, State.srcRows, State.arrRows, State.pure.fillC, State.bound, State.rd, takeC, args0, State.res, State.res1, State.resS, State.resL, normS, AC.pure, splice, ↓reduceIte, Nat.reduceEqDiff, Nat.reduceLT, Nat.reduceLeDiff, Nat.reduceAdd, Nat.reduceSub, Nat.reduceMul, Int.reduceLE, Int.reduceLT, Int.reduceToNat, Int.reduceEq, Int.reduceNe, Int.reduceAdd, Int.reduceMul, Int.reducePow, Int.reduceNeg, Nat.reduceBEq, Int.reduceBNe, Int.reduceBEq, reduceCtorEq, ne_eq, IntWalk.iteOmega]
    rw [hL]; exact hK _
  | cons x post ih =>
    intro pre hp
    have ih := ih (pre ++ [x]) (by rw [← hp]; simp)
    have hget := row_at hp
    have hlt : (pre.length : Int) < c.items.length := by rw [← hp]; simp; omega
    have hbb : tot pre + x.bytes.size ≤ tot c.items := by rw [← hp, tot_app, tot]; omega
    rw [tot_app] at ih
    simp only [List.length_append, List.length_cons, List.length_nil, tot, Cache.enc] at ih
    have hx : x ∈ c.items := by rw [← hp]; simp
    have q1 : (x.last < c.now) = False := eq_false (hlast x hx)
    obtain ⟨hk1, hk2⟩ := hk
    refine go_loop fun L hL => ?_
    by_cases h3 : o.kind.tmod 4 = 3
    · have q2 : (x.object = o.k.object) = False := eq_false (hkind h3 x hx)
      have q3 : (o.kind.tmod 4 = 3) = True := eq_true h3
      clear hlast hkind
      simp -implicitDefEqProofs (disch := omega) only [i5_0, i5_1, i5_2, i5_3, i5_4, i5_5, i5_6, i5_7, i5_8, i5_9, i5_10, i5_11, i5_12, i5_13, i5_14, i5_15, i5_16, i5_17, i5_18, i5_19, i5_20, i5_K0, i5_K1, i5_K2, i5, i5_L0, hlt, hget, rowsK_len, Kept.enc, Cache.enc, hm, Op.enc, q1, q2, q3, zS, State.step, State.pure, State.pure.capsOf, arrGo, State.ghosts, State.ghost, State.srcRows, State.arrRows, State.pure.fillC, State.bound, State.rd, takeC, args0, State.res, State.res1, State.resS, State.resL, normS, AC.pure, splice, ↓reduceIte, Nat.reduceEqDiff, Nat.reduceLT, Nat.reduceLeDiff, Nat.reduceAdd, Nat.reduceSub, Nat.reduceMul, Int.reduceLE, Int.reduceLT, Int.reduceToNat, Int.reduceEq, Int.reduceNe, Int.reduceAdd, Int.reduceMul, Int.reducePow, Int.reduceNeg, Nat.reduceBEq, Int.reduceBNe, Int.reduceBEq, reduceCtorEq, ne_eq, IntWalk.iteOmega]
      rw [hL]; exact ih
    · have q3 : (o.kind.tmod 4 = 3) = False := eq_false h3
      clear hlast hkind
      simp -implicitDefEqProofs (disch := omega) only [i5_0, i5_1, i5_2, i5_3, i5_4, i5_5, i5_6, i5_7, i5_8, i5_9, i5_10, i5_11, i5_12, i5_13, i5_14, i5_15, i5_16, i5_17, i5_18, i5_19, i5_20, i5_K0, i5_K1, i5_K2, i5, i5_L0, hlt, hget, rowsK_len, Kept.enc, Cache.enc, hm, Op.enc, q1, q3, zS, State.step, State.pure, State.pure.capsOf, arrGo, State.ghosts, State.ghost, State.srcRows, State.arrRows, State.pure.fillC, State.bound, State.rd, takeC, args0, State.res, State.res1, State.resS, State.resL, normS, AC.pure, splice, ↓reduceIte, Nat.reduceEqDiff, Nat.reduceLT, Nat.reduceLeDiff, Nat.reduceAdd, Nat.reduceSub, Nat.reduceMul, Int.reduceLE, Int.reduceLT, Int.reduceToNat, Int.reduceEq, Int.reduceNe, Int.reduceAdd, Int.reduceMul, Int.reducePow, Int.reduceNeg, Nat.reduceBEq, Int.reduceBNe, Int.reduceBEq, reduceCtorEq, ne_eq, IntWalk.iteOmega]
      rw [hL]; exact ih
theorem L5 (room : Int) (all : List Op) (hn : all.length ≤ 40) (ho : ∀ o ∈ all, o.Ok) (K : AX → State → Prop)
    (hK : ∀ H j, K (.x 0) ⟨[(0, .c (.int .i64 room)), (1, .c (.list 0 9 (rowsO all))), (5, .c (.ptr (some (0, 0)))), (7, .c (.int .i64 j)), (27, .c (.bool false))], H⟩) :
    ∀ (post pre : List Op) (c : Cache), pre ++ post = all → Inv c pre.length → c.room = room → ∀ X, (IR.loop [] i5_L1).go Try.prog ⟨[(0, .c (.int .i64 room)), (1, .c (.list 0 9 (rowsO all))), (5, .c (.ptr (some (0, 0)))), (7, .c (.int .i64 pre.length))], .cells c.enc :: X⟩ K := by
  intro post
  induction post with
  | nil =>
    intro pre c hp hi hr X
    obtain rfl : pre = all := by simpa using hp
    refine go_loop fun L hL => ?_
    simp -implicitDefEqProofs (disch := omega) only [i5_0, i5_1, i5_2, i5_3, i5_4, i5_5, i5_6, i5_7, i5_8, i5_9, i5_10, i5_11, i5_12, i5_13, i5_14, i5_15, i5_16, i5_17, i5_18, i5_19, i5_20, i5, i5_L1, rowsO_len, zS, State.step, State.pure, State.pure.capsOf, arrGo, State.ghosts, State.ghost, State.srcRows, State.arrRows, State.pure.fillC, State.bound, State.rd, takeC, args0, State.res, State.res1, State.resS, State.resL, normS, AC.pure, splice, ↓reduceIte, Nat.reduceEqDiff, Nat.reduceLT, Nat.reduceLeDiff, Nat.reduceAdd, Nat.reduceSub, Nat.reduceMul, Int.reduceLE, Int.reduceLT, Int.reduceToNat, Int.reduceEq, Int.reduceNe, Int.reduceAdd, Int.reduceMul, Int.reducePow, Int.reduceNeg, Nat.reduceBEq, Int.reduceBNe, Int.reduceBEq, reduceCtorEq, ne_eq, IntWalk.iteOmega]
    rw [hL]; exact hK _ _
  | cons o post ih =>
    intro pre c hp hi hr X
    have hget := rowO_at hp
    have hpl : pre.length + 1 ≤ 40 := by rw [← hp] at hn; simp at hn; omega
    have hlt : (pre.length : Int) < all.length := by rw [← hp]; simp; omega
    have hoo := ho o (by rw [← hp]; simp)
    obtain ⟨g1, g2⟩ := doM_inv hi (by omega) hoo
    have hc := hi.toOk (by omega)
    have hil := hi.len
    have hgl := g1.len
    have hdc := g1.toOk (by omega)
    have h16 := T16 c o hc (by omega) hoo
    have h12 := T12 (doM c o).c hdc
    rw [good_check g1.good] at h12
    have herr := fun h => doM_err (c := c) (o := o) h
    have h14 := T14 (doM c o).c c (by omega)
    have hroom := doM_room c o
    have hfits := g1.good.fits
    have hforget := doM_forget hi hoo.kind.1
    have hN := ih (pre ++ [o]) (doM c o).c (by rw [← hp]; simp) (by simpa using g1) (by rw [hroom, hr])
    simp only [List.length_append, List.length_cons, List.length_nil] at hN
    have hI := fun X K hK => I5 room all pre.length o hget (by omega) (doM c o).c X hdc.few hdc.tot (fun x hx => by have := (g1.good.right x hx).2.2.2; omega) hforget hoo.kind K hK (doM c o).c.items [] rfl
    clear ih ho hi g1 g2 hoo hc hdc hforget
    generalize doM c o = D at *
    rw [hr] at hroom
    rw [hroom] at hfits
    have q1 : (room < ((tot D.c.items : Nat) : Int)) = False := eq_false (by omega)
    have q2 : (D.c.room = room) = True := eq_true hroom
    simp only [Cache.enc] at hI hN
    refine go_loop fun L hL => ?_
    simp -implicitDefEqProofs (disch := omega) only [i5_0, i5_1, i5_2, i5_3, i5_4, i5_5, i5_6, i5_7, i5_8, i5_9, i5_10, i5_11, i5_12, i5_13, i5_14, i5_15, i5_16, i5_17, i5_18, i5_19, i5_20, i5, i5_L1, hlt, hget, rowsO_len, Cache.enc, Op.enc, zS, State.step, State.pure, State.pure.capsOf, arrGo, State.ghosts, State.ghost, State.srcRows, State.arrRows, State.pure.fillC, State.bound, State.rd, takeC, args0, State.res, State.res1, State.resS, State.resL, normS, AC.pure, splice, ↓reduceIte, Nat.reduceEqDiff, Nat.reduceLT, Nat.reduceLeDiff, Nat.reduceAdd, Nat.reduceSub, Nat.reduceMul, Int.reduceLE, Int.reduceLT, Int.reduceToNat, Int.reduceEq, Int.reduceNe, Int.reduceAdd, Int.reduceMul, Int.reducePow, Int.reduceNeg, Nat.reduceBEq, Int.reduceBNe, Int.reduceBEq, reduceCtorEq, ne_eq, IntWalk.iteOmega]
    refine call_pure h16 rfl rfl ?_
    simp -implicitDefEqProofs (disch := omega) only [i5_0, i5_1, i5_2, i5_3, i5_4, i5_5, i5_6, i5_7, i5_8, i5_9, i5_10, i5_11, i5_12, i5_13, i5_14, i5_15, i5_16, i5_17, i5_18, i5_19, i5_20, i5, Made.enc, zS, State.step, State.pure, State.pure.capsOf, arrGo, State.ghosts, State.ghost, State.srcRows, State.arrRows, State.pure.fillC, State.bound, State.rd, takeC, args0, State.res, State.res1, State.resS, State.resL, normS, AC.pure, splice, ↓reduceIte, Nat.reduceEqDiff, Nat.reduceLT, Nat.reduceLeDiff, Nat.reduceAdd, Nat.reduceSub, Nat.reduceMul, Int.reduceLE, Int.reduceLT, Int.reduceToNat, Int.reduceEq, Int.reduceNe, Int.reduceAdd, Int.reduceMul, Int.reducePow, Int.reduceNeg, Nat.reduceBEq, Int.reduceBNe, Int.reduceBEq, reduceCtorEq, ne_eq, IntWalk.iteOmega]
    by_cases he : D.e = 0
    · have q0 : (D.e = 0) = True := eq_true he
      simp -implicitDefEqProofs (disch := omega) only [q0, zS, State.step, State.pure, State.pure.capsOf, arrGo, State.ghosts, State.ghost, State.srcRows, State.arrRows, State.pure.fillC, State.bound, State.rd, takeC, args0, State.res, State.res1, State.resS, State.resL, normS, AC.pure, splice, ↓reduceIte, Nat.reduceEqDiff, Nat.reduceLT, Nat.reduceLeDiff, Nat.reduceAdd, Nat.reduceSub, Nat.reduceMul, Int.reduceLE, Int.reduceLT, Int.reduceToNat, Int.reduceEq, Int.reduceNe, Int.reduceAdd, Int.reduceMul, Int.reducePow, Int.reduceNeg, Nat.reduceBEq, Int.reduceBNe, Int.reduceBEq, reduceCtorEq, ne_eq, IntWalk.iteOmega]
      refine call_pure h12 rfl rfl ?_
      simp -implicitDefEqProofs (disch := omega) only [i5_0, i5_1, i5_2, i5_3, i5_4, i5_5, i5_6, i5_7, i5_8, i5_9, i5_10, i5_11, i5_12, i5_13, i5_14, i5_15, i5_16, i5_17, i5_18, i5_19, i5_20, i5, q2, zS, State.step, State.pure, State.pure.capsOf, arrGo, State.ghosts, State.ghost, State.srcRows, State.arrRows, State.pure.fillC, State.bound, State.rd, takeC, args0, State.res, State.res1, State.resS, State.resL, normS, AC.pure, splice, ↓reduceIte, Nat.reduceEqDiff, Nat.reduceLT, Nat.reduceLeDiff, Nat.reduceAdd, Nat.reduceSub, Nat.reduceMul, Int.reduceLE, Int.reduceLT, Int.reduceToNat, Int.reduceEq, Int.reduceNe, Int.reduceAdd, Int.reduceMul, Int.reducePow, Int.reduceNeg, Nat.reduceBEq, Int.reduceBNe, Int.reduceBEq, reduceCtorEq, ne_eq, IntWalk.iteOmega]
      refine hI _ _ fun j => ?_
      simp -implicitDefEqProofs (disch := omega) only [i5_0, i5_1, i5_2, i5_3, i5_4, i5_5, i5_6, i5_7, i5_8, i5_9, i5_10, i5_11, i5_12, i5_13, i5_14, i5_15, i5_16, i5_17, i5_18, i5_19, i5_20, i5_K0, i5_K1, i5_K2, i5, q1, zS, State.step, State.pure, State.pure.capsOf, arrGo, State.ghosts, State.ghost, State.srcRows, State.arrRows, State.pure.fillC, State.bound, State.rd, takeC, args0, State.res, State.res1, State.resS, State.resL, normS, AC.pure, splice, ↓reduceIte, Nat.reduceEqDiff, Nat.reduceLT, Nat.reduceLeDiff, Nat.reduceAdd, Nat.reduceSub, Nat.reduceMul, Int.reduceLE, Int.reduceLT, Int.reduceToNat, Int.reduceEq, Int.reduceNe, Int.reduceAdd, Int.reduceMul, Int.reducePow, Int.reduceNeg, Nat.reduceBEq, Int.reduceBNe, Int.reduceBEq, reduceCtorEq, ne_eq, IntWalk.iteOmega]
      rw [hL]
      exact hN _
    · have q0 : (D.e = 0) = False := eq_false he
      have q3 := herr he
      have h14' : RunsTo Try.prog 14 [.agg D.c.enc, .agg c.enc] [] (.c (.bool true)) [] := by rw [decide_eq_true q3] at h14; exact h14
      simp -implicitDefEqProofs (disch := omega) only [q0, zS, State.step, State.pure, State.pure.capsOf, arrGo, State.ghosts, State.ghost, State.srcRows, State.arrRows, State.pure.fillC, State.bound, State.rd, takeC, args0, State.res, State.res1, State.resS, State.resL, normS, AC.pure, splice, ↓reduceIte, Nat.reduceEqDiff, Nat.reduceLT, Nat.reduceLeDiff, Nat.reduceAdd, Nat.reduceSub, Nat.reduceMul, Int.reduceLE, Int.reduceLT, Int.reduceToNat, Int.reduceEq, Int.reduceNe, Int.reduceAdd, Int.reduceMul, Int.reducePow, Int.reduceNeg, Nat.reduceBEq, Int.reduceBNe, Int.reduceBEq, reduceCtorEq, ne_eq, IntWalk.iteOmega]
      refine call_pure h14' rfl rfl ?_
      simp -implicitDefEqProofs (disch := omega) only [zS, State.step, State.pure, State.pure.capsOf, arrGo, State.ghosts, State.ghost, State.srcRows, State.arrRows, State.pure.fillC, State.bound, State.rd, takeC, args0, State.res, State.res1, State.resS, State.resL, normS, AC.pure, splice, ↓reduceIte, Nat.reduceEqDiff, Nat.reduceLT, Nat.reduceLeDiff, Nat.reduceAdd, Nat.reduceSub, Nat.reduceMul, Int.reduceLE, Int.reduceLT, Int.reduceToNat, Int.reduceEq, Int.reduceNe, Int.reduceAdd, Int.reduceMul, Int.reducePow, Int.reduceNeg, Nat.reduceBEq, Int.reduceBNe, Int.reduceBEq, reduceCtorEq, ne_eq, IntWalk.iteOmega]
      refine call_pure h12 rfl rfl ?_
      simp -implicitDefEqProofs (disch := omega) only [i5_0, i5_1, i5_2, i5_3, i5_4, i5_5, i5_6, i5_7, i5_8, i5_9, i5_10, i5_11, i5_12, i5_13, i5_14, i5_15, i5_16, i5_17, i5_18, i5_19, i5_20, i5, q2, zS, State.step, State.pure, State.pure.capsOf, arrGo, State.ghosts, State.ghost, State.srcRows, State.arrRows, State.pure.fillC, State.bound, State.rd, takeC, args0, State.res, State.res1, State.resS, State.resL, normS, AC.pure, splice, ↓reduceIte, Nat.reduceEqDiff, Nat.reduceLT, Nat.reduceLeDiff, Nat.reduceAdd, Nat.reduceSub, Nat.reduceMul, Int.reduceLE, Int.reduceLT, Int.reduceToNat, Int.reduceEq, Int.reduceNe, Int.reduceAdd, Int.reduceMul, Int.reducePow, Int.reduceNeg, Nat.reduceBEq, Int.reduceBNe, Int.reduceBEq, reduceCtorEq, ne_eq, IntWalk.iteOmega]
      refine hI _ _ fun j => ?_
      simp -implicitDefEqProofs (disch := omega) only [i5_0, i5_1, i5_2, i5_3, i5_4, i5_5, i5_6, i5_7, i5_8, i5_9, i5_10, i5_11, i5_12, i5_13, i5_14, i5_15, i5_16, i5_17, i5_18, i5_19, i5_20, i5_K0, i5_K1, i5_K2, i5, q1, zS, State.step, State.pure, State.pure.capsOf, arrGo, State.ghosts, State.ghost, State.srcRows, State.arrRows, State.pure.fillC, State.bound, State.rd, takeC, args0, State.res, State.res1, State.resS, State.resL, normS, AC.pure, splice, ↓reduceIte, Nat.reduceEqDiff, Nat.reduceLT, Nat.reduceLeDiff, Nat.reduceAdd, Nat.reduceSub, Nat.reduceMul, Int.reduceLE, Int.reduceLT, Int.reduceToNat, Int.reduceEq, Int.reduceNe, Int.reduceAdd, Int.reduceMul, Int.reducePow, Int.reduceNeg, Nat.reduceBEq, Int.reduceBNe, Int.reduceBEq, reduceCtorEq, ne_eq, IntWalk.iteOmega]
      rw [hL]
      exact hN _
theorem newC_room {room : Int} (h : newE room = 0) : (newC room).room = room := by
  unfold newE at h
  split at h
  · cases h
  · rename_i hr; unfold newC; rw [if_neg hr]
theorem T5 (room : Int) (hr : I64 room) (l : List Op) (ho : ∀ o ∈ l, o.Ok) : RunsTo Try.prog 5 [.c (.int .i64 room), .c (.list 0 9 (rowsO l))] [] (.c (.bool true)) [] := by
  have h10 := T10n room hr
  by_cases hf : Few l
  · have h18 := T18n l true (by simp [hf])
    by_cases he : newE room = 0
    · have hL := fun K hK => L5 room l hf.1 ho K hK l [] (newC room) rfl (new_inv he) (newC_room he)
      clear ho
      generalize newC room = nc at *
      refine R5 (by simp) ?_
      simp -implicitDefEqProofs (disch := omega) only [i5_0, i5_1, i5_2, i5_3, i5_4, i5_5, i5_6, i5_7, i5_8, i5_9, i5_10, i5_11, i5_12, i5_13, i5_14, i5_15, i5_16, i5_17, i5_18, i5_19, i5_20, i5, zS, State.step, State.pure, State.pure.capsOf, arrGo, State.ghosts, State.ghost, State.srcRows, State.arrRows, State.pure.fillC, State.bound, State.rd, takeC, args0, State.res, State.res1, State.resS, State.resL, normS, AC.pure, splice, ↓reduceIte, Nat.reduceEqDiff, Nat.reduceLT, Nat.reduceLeDiff, Nat.reduceAdd, Nat.reduceSub, Nat.reduceMul, Int.reduceLE, Int.reduceLT, Int.reduceToNat, Int.reduceEq, Int.reduceNe, Int.reduceAdd, Int.reduceMul, Int.reducePow, Int.reduceNeg, Nat.reduceBEq, Int.reduceBNe, Int.reduceBEq, reduceCtorEq, ne_eq, IntWalk.iteOmega]
      refine call_pure h10 rfl rfl ?_
      simp -implicitDefEqProofs (disch := omega) only [i5_0, i5_1, i5_2, i5_3, i5_4, i5_5, i5_6, i5_7, i5_8, i5_9, i5_10, i5_11, i5_12, i5_13, i5_14, i5_15, i5_16, i5_17, i5_18, i5_19, i5_20, i5, Cache.enc, he, zS, State.step, State.pure, State.pure.capsOf, arrGo, State.ghosts, State.ghost, State.srcRows, State.arrRows, State.pure.fillC, State.bound, State.rd, takeC, args0, State.res, State.res1, State.resS, State.resL, normS, AC.pure, splice, ↓reduceIte, Nat.reduceEqDiff, Nat.reduceLT, Nat.reduceLeDiff, Nat.reduceAdd, Nat.reduceSub, Nat.reduceMul, Int.reduceLE, Int.reduceLT, Int.reduceToNat, Int.reduceEq, Int.reduceNe, Int.reduceAdd, Int.reduceMul, Int.reducePow, Int.reduceNeg, Nat.reduceBEq, Int.reduceBNe, Int.reduceBEq, reduceCtorEq, ne_eq, IntWalk.iteOmega]
      refine call_pure h18 rfl rfl ?_
      simp -implicitDefEqProofs (disch := omega) only [i5_0, i5_1, i5_2, i5_3, i5_4, i5_5, i5_6, i5_7, i5_8, i5_9, i5_10, i5_11, i5_12, i5_13, i5_14, i5_15, i5_16, i5_17, i5_18, i5_19, i5_20, i5, zS, State.step, State.pure, State.pure.capsOf, arrGo, State.ghosts, State.ghost, State.srcRows, State.arrRows, State.pure.fillC, State.bound, State.rd, takeC, args0, State.res, State.res1, State.resS, State.resL, normS, AC.pure, splice, ↓reduceIte, Nat.reduceEqDiff, Nat.reduceLT, Nat.reduceLeDiff, Nat.reduceAdd, Nat.reduceSub, Nat.reduceMul, Int.reduceLE, Int.reduceLT, Int.reduceToNat, Int.reduceEq, Int.reduceNe, Int.reduceAdd, Int.reduceMul, Int.reducePow, Int.reduceNeg, Nat.reduceBEq, Int.reduceBNe, Int.reduceBEq, reduceCtorEq, ne_eq, IntWalk.iteOmega]
      refine hL _ (fun H j => ?_) _
      simp -implicitDefEqProofs (disch := omega) only [i5_0, i5_1, i5_2, i5_3, i5_4, i5_5, i5_6, i5_7, i5_8, i5_9, i5_10, i5_11, i5_12, i5_13, i5_14, i5_15, i5_16, i5_17, i5_18, i5_19, i5_20, i5_K0, i5_K1, i5_K2, i5, zS, State.step, State.pure, State.pure.capsOf, arrGo, State.ghosts, State.ghost, State.srcRows, State.arrRows, State.pure.fillC, State.bound, State.rd, takeC, args0, State.res, State.res1, State.resS, State.resL, normS, AC.pure, splice, ↓reduceIte, Nat.reduceEqDiff, Nat.reduceLT, Nat.reduceLeDiff, Nat.reduceAdd, Nat.reduceSub, Nat.reduceMul, Int.reduceLE, Int.reduceLT, Int.reduceToNat, Int.reduceEq, Int.reduceNe, Int.reduceAdd, Int.reduceMul, Int.reducePow, Int.reduceNeg, Nat.reduceBEq, Int.reduceBNe, Int.reduceBEq, reduceCtorEq, ne_eq, IntWalk.iteOmega]
      refine call_pure T9 rfl rfl ?_
      simp -implicitDefEqProofs (disch := omega) only [zS, State.step, State.pure, State.pure.capsOf, arrGo, State.ghosts, State.ghost, State.srcRows, State.arrRows, State.pure.fillC, State.bound, State.rd, takeC, args0, State.res, State.res1, State.resS, State.resL, normS, AC.pure, splice, ↓reduceIte, Nat.reduceEqDiff, Nat.reduceLT, Nat.reduceLeDiff, Nat.reduceAdd, Nat.reduceSub, Nat.reduceMul, Int.reduceLE, Int.reduceLT, Int.reduceToNat, Int.reduceEq, Int.reduceNe, Int.reduceAdd, Int.reduceMul, Int.reducePow, Int.reduceNeg, Nat.reduceBEq, Int.reduceBNe, Int.reduceBEq, reduceCtorEq, ne_eq, IntWalk.iteOmega]
      (refine fin_pure rfl ?_ not_x_r; simp only [rs5, zS, State.step, State.pure, State.pure.capsOf, arrGo, State.ghosts, State.ghost, State.srcRows, State.arrRows, State.pure.fillC, State.bound, State.rd, takeC, args0, State.res, State.res1, State.resS, State.resL, normS, AC.pure, splice, ↓reduceIte, Nat.reduceEqDiff, Nat.reduceLT, Nat.reduceLeDiff, Nat.reduceAdd, Nat.reduceSub, Nat.reduceMul, Int.reduceLE, Int.reduceLT, Int.reduceToNat, Int.reduceEq, Int.reduceNe, Int.reduceAdd, Int.reduceMul, Int.reducePow, Int.reduceNeg, Nat.reduceBEq, Int.reduceBNe, Int.reduceBEq, reduceCtorEq, ne_eq, IntWalk.iteOmega])
    · generalize newC room = nc at *
      refine R5 (by simp) ?_
      simp -implicitDefEqProofs (disch := omega) only [i5_0, i5_1, i5_2, i5_3, i5_4, i5_5, i5_6, i5_7, i5_8, i5_9, i5_10, i5_11, i5_12, i5_13, i5_14, i5_15, i5_16, i5_17, i5_18, i5_19, i5_20, i5, zS, State.step, State.pure, State.pure.capsOf, arrGo, State.ghosts, State.ghost, State.srcRows, State.arrRows, State.pure.fillC, State.bound, State.rd, takeC, args0, State.res, State.res1, State.resS, State.resL, normS, AC.pure, splice, ↓reduceIte, Nat.reduceEqDiff, Nat.reduceLT, Nat.reduceLeDiff, Nat.reduceAdd, Nat.reduceSub, Nat.reduceMul, Int.reduceLE, Int.reduceLT, Int.reduceToNat, Int.reduceEq, Int.reduceNe, Int.reduceAdd, Int.reduceMul, Int.reducePow, Int.reduceNeg, Nat.reduceBEq, Int.reduceBNe, Int.reduceBEq, reduceCtorEq, ne_eq, IntWalk.iteOmega]
      refine call_pure h10 rfl rfl ?_
      simp -implicitDefEqProofs (disch := omega) only [i5_0, i5_1, i5_2, i5_3, i5_4, i5_5, i5_6, i5_7, i5_8, i5_9, i5_10, i5_11, i5_12, i5_13, i5_14, i5_15, i5_16, i5_17, i5_18, i5_19, i5_20, i5, Cache.enc, zS, State.step, State.pure, State.pure.capsOf, arrGo, State.ghosts, State.ghost, State.srcRows, State.arrRows, State.pure.fillC, State.bound, State.rd, takeC, args0, State.res, State.res1, State.resS, State.resL, normS, AC.pure, splice, ↓reduceIte, Nat.reduceEqDiff, Nat.reduceLT, Nat.reduceLeDiff, Nat.reduceAdd, Nat.reduceSub, Nat.reduceMul, Int.reduceLE, Int.reduceLT, Int.reduceToNat, Int.reduceEq, Int.reduceNe, Int.reduceAdd, Int.reduceMul, Int.reducePow, Int.reduceNeg, Nat.reduceBEq, Int.reduceBNe, Int.reduceBEq, reduceCtorEq, ne_eq, IntWalk.iteOmega]
      refine call_pure h18 rfl rfl ?_
      simp -implicitDefEqProofs (disch := omega) only [i5_0, i5_1, i5_2, i5_3, i5_4, i5_5, i5_6, i5_7, i5_8, i5_9, i5_10, i5_11, i5_12, i5_13, i5_14, i5_15, i5_16, i5_17, i5_18, i5_19, i5_20, i5, he, zS, State.step, State.pure, State.pure.capsOf, arrGo, State.ghosts, State.ghost, State.srcRows, State.arrRows, State.pure.fillC, State.bound, State.rd, takeC, args0, State.res, State.res1, State.resS, State.resL, normS, AC.pure, splice, ↓reduceIte, Nat.reduceEqDiff, Nat.reduceLT, Nat.reduceLeDiff, Nat.reduceAdd, Nat.reduceSub, Nat.reduceMul, Int.reduceLE, Int.reduceLT, Int.reduceToNat, Int.reduceEq, Int.reduceNe, Int.reduceAdd, Int.reduceMul, Int.reducePow, Int.reduceNeg, Nat.reduceBEq, Int.reduceBNe, Int.reduceBEq, reduceCtorEq, ne_eq, IntWalk.iteOmega]
      refine call_pure T9 rfl rfl ?_
      simp -implicitDefEqProofs (disch := omega) only [zS, State.step, State.pure, State.pure.capsOf, arrGo, State.ghosts, State.ghost, State.srcRows, State.arrRows, State.pure.fillC, State.bound, State.rd, takeC, args0, State.res, State.res1, State.resS, State.resL, normS, AC.pure, splice, ↓reduceIte, Nat.reduceEqDiff, Nat.reduceLT, Nat.reduceLeDiff, Nat.reduceAdd, Nat.reduceSub, Nat.reduceMul, Int.reduceLE, Int.reduceLT, Int.reduceToNat, Int.reduceEq, Int.reduceNe, Int.reduceAdd, Int.reduceMul, Int.reducePow, Int.reduceNeg, Nat.reduceBEq, Int.reduceBNe, Int.reduceBEq, reduceCtorEq, ne_eq, IntWalk.iteOmega]
      (refine fin_pure rfl ?_ not_x_r; simp only [rs5, zS, State.step, State.pure, State.pure.capsOf, arrGo, State.ghosts, State.ghost, State.srcRows, State.arrRows, State.pure.fillC, State.bound, State.rd, takeC, args0, State.res, State.res1, State.resS, State.resL, normS, AC.pure, splice, ↓reduceIte, Nat.reduceEqDiff, Nat.reduceLT, Nat.reduceLeDiff, Nat.reduceAdd, Nat.reduceSub, Nat.reduceMul, Int.reduceLE, Int.reduceLT, Int.reduceToNat, Int.reduceEq, Int.reduceNe, Int.reduceAdd, Int.reduceMul, Int.reducePow, Int.reduceNeg, Nat.reduceBEq, Int.reduceBNe, Int.reduceBEq, reduceCtorEq, ne_eq, IntWalk.iteOmega])
  · have h18 := T18n l false (by simp [hf])
    generalize newC room = nc at *
    refine R5 (by simp) ?_
    simp -implicitDefEqProofs (disch := omega) only [i5_0, i5_1, i5_2, i5_3, i5_4, i5_5, i5_6, i5_7, i5_8, i5_9, i5_10, i5_11, i5_12, i5_13, i5_14, i5_15, i5_16, i5_17, i5_18, i5_19, i5_20, i5, zS, State.step, State.pure, State.pure.capsOf, arrGo, State.ghosts, State.ghost, State.srcRows, State.arrRows, State.pure.fillC, State.bound, State.rd, takeC, args0, State.res, State.res1, State.resS, State.resL, normS, AC.pure, splice, ↓reduceIte, Nat.reduceEqDiff, Nat.reduceLT, Nat.reduceLeDiff, Nat.reduceAdd, Nat.reduceSub, Nat.reduceMul, Int.reduceLE, Int.reduceLT, Int.reduceToNat, Int.reduceEq, Int.reduceNe, Int.reduceAdd, Int.reduceMul, Int.reducePow, Int.reduceNeg, Nat.reduceBEq, Int.reduceBNe, Int.reduceBEq, reduceCtorEq, ne_eq, IntWalk.iteOmega]
    refine call_pure h10 rfl rfl ?_
    simp -implicitDefEqProofs (disch := omega) only [i5_0, i5_1, i5_2, i5_3, i5_4, i5_5, i5_6, i5_7, i5_8, i5_9, i5_10, i5_11, i5_12, i5_13, i5_14, i5_15, i5_16, i5_17, i5_18, i5_19, i5_20, i5, Cache.enc, zS, State.step, State.pure, State.pure.capsOf, arrGo, State.ghosts, State.ghost, State.srcRows, State.arrRows, State.pure.fillC, State.bound, State.rd, takeC, args0, State.res, State.res1, State.resS, State.resL, normS, AC.pure, splice, ↓reduceIte, Nat.reduceEqDiff, Nat.reduceLT, Nat.reduceLeDiff, Nat.reduceAdd, Nat.reduceSub, Nat.reduceMul, Int.reduceLE, Int.reduceLT, Int.reduceToNat, Int.reduceEq, Int.reduceNe, Int.reduceAdd, Int.reduceMul, Int.reducePow, Int.reduceNeg, Nat.reduceBEq, Int.reduceBNe, Int.reduceBEq, reduceCtorEq, ne_eq, IntWalk.iteOmega]
    refine call_pure h18 rfl rfl ?_
    simp -implicitDefEqProofs (disch := omega) only [i5_0, i5_1, i5_2, i5_3, i5_4, i5_5, i5_6, i5_7, i5_8, i5_9, i5_10, i5_11, i5_12, i5_13, i5_14, i5_15, i5_16, i5_17, i5_18, i5_19, i5_20, i5, zS, State.step, State.pure, State.pure.capsOf, arrGo, State.ghosts, State.ghost, State.srcRows, State.arrRows, State.pure.fillC, State.bound, State.rd, takeC, args0, State.res, State.res1, State.resS, State.resL, normS, AC.pure, splice, ↓reduceIte, Nat.reduceEqDiff, Nat.reduceLT, Nat.reduceLeDiff, Nat.reduceAdd, Nat.reduceSub, Nat.reduceMul, Int.reduceLE, Int.reduceLT, Int.reduceToNat, Int.reduceEq, Int.reduceNe, Int.reduceAdd, Int.reduceMul, Int.reducePow, Int.reduceNeg, Nat.reduceBEq, Int.reduceBNe, Int.reduceBEq, reduceCtorEq, ne_eq, IntWalk.iteOmega]
    refine call_pure T9 rfl rfl ?_
    simp -implicitDefEqProofs (disch := omega) only [zS, State.step, State.pure, State.pure.capsOf, arrGo, State.ghosts, State.ghost, State.srcRows, State.arrRows, State.pure.fillC, State.bound, State.rd, takeC, args0, State.res, State.res1, State.resS, State.resL, normS, AC.pure, splice, ↓reduceIte, Nat.reduceEqDiff, Nat.reduceLT, Nat.reduceLeDiff, Nat.reduceAdd, Nat.reduceSub, Nat.reduceMul, Int.reduceLE, Int.reduceLT, Int.reduceToNat, Int.reduceEq, Int.reduceNe, Int.reduceAdd, Int.reduceMul, Int.reducePow, Int.reduceNeg, Nat.reduceBEq, Int.reduceBNe, Int.reduceBEq, reduceCtorEq, ne_eq, IntWalk.iteOmega]
    (refine fin_pure rfl ?_ not_x_r; simp only [rs5, zS, State.step, State.pure, State.pure.capsOf, arrGo, State.ghosts, State.ghost, State.srcRows, State.arrRows, State.pure.fillC, State.bound, State.rd, takeC, args0, State.res, State.res1, State.resS, State.resL, normS, AC.pure, splice, ↓reduceIte, Nat.reduceEqDiff, Nat.reduceLT, Nat.reduceLeDiff, Nat.reduceAdd, Nat.reduceSub, Nat.reduceMul, Int.reduceLE, Int.reduceLT, Int.reduceToNat, Int.reduceEq, Int.reduceNe, Int.reduceAdd, Int.reduceMul, Int.reducePow, Int.reduceNeg, Nat.reduceBEq, Int.reduceBNe, Int.reduceBEq, reduceCtorEq, ne_eq, IntWalk.iteOmega])
end Go.Proofs.Ytimapebigcmbmaa
