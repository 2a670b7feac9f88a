/- A part of the proofs: a verified symbolic execution of Go's code, and what each function of the program computes; no conditions of its own. -/
import Derived.Test.YtimapebigcmbmaaL6

set_option linter.unusedVariables false
set_option linter.unusedSimpArgs false
namespace Go.Proofs.Ytimapebigcmbmaa
open Go Go.AI Go.Proofs

/-! ### What stays -/
theorem mem_idx {l : List Kept} (hs : l.Pairwise Before) {y : Kept} (hy : y ∈ l) : ∃ i, idx y.object y.chunk l = some i ∧ l[i]? = some y := by
  obtain ⟨j, hj⟩ := List.getElem?_of_mem hy
  cases h : idx y.object y.chunk l with
  | none => exact absurd ⟨rfl, rfl⟩ (idx_none.1 h y hy)
  | some i =>
    obtain ⟨x, hx, hk⟩ := idx_some h
    have := sorted_uniq hs hx hj (by unfold SameKey; exact hk)
    subst this
    exact ⟨i, rfl, hj⟩
def Skip (o : Op) (D : Made) (y : Kept) : Prop := D.e = 0 ∧ (o.kind.tmod 4 = 0 ∧ y.last < o.n ∨ o.kind.tmod 4 = 3 ∧ y.object = o.k.object ∨ o.kind.tmod 4 = 1 ∧ y.object = o.k.object ∧ y.chunk = o.k.chunk)
def Stays (D : Made) (y : Kept) : Prop := ∃ i z, idx y.object y.chunk D.c.items = some i ∧ D.c.items[i]? = some z ∧ z.object = y.object ∧ z.chunk = y.chunk ∧ z.version = y.version ∧ z.bytes = y.bytes ∧ z.since = y.since ∧ z.last = y.last ∧ ∀ w ∈ D.out, w.used ≤ y.used
theorem doM_errOut {c : Cache} {o : Op} (h : (doM c o).e ≠ 0) : (doM c o).out = [] := by
  unfold doM at *
  split at h
  · rw [if_pos (by assumption)]; rfl
  · rw [if_neg (by assumption)]
    split at h
    · rw [if_pos (by assumption)]
      simp only [refPut, put] at *
      split at h <;> (try rw [if_pos (by assumption)])
      rename_i h1; rw [if_neg h1]
      split at h <;> (try rw [if_pos (by assumption)])
      rename_i h2; rw [if_neg h2]
      split at h <;> (try rw [if_pos (by assumption)])
      rename_i h3; rw [if_neg h3]
      split at h <;> (try rw [if_pos (by assumption)])
      rename_i h4; rw [if_neg h4]
      split at h <;> (try rw [if_pos (by assumption)])
      exact absurd rfl h
    · rw [if_neg (by assumption)]
      split at h
      · rw [if_pos (by assumption)]; rfl
      · rw [if_neg (by assumption)]; rfl
theorem stays_of {D : Made} {y z : Kept} (hs : D.c.items.Pairwise Before) (hz : z ∈ D.c.items) (hk : { z with used := y.used } = y) (ho : ∀ w ∈ D.out, w.used ≤ y.used) : Stays D y := by
  obtain ⟨i, h1, h2⟩ := mem_idx hs hz
  have e : z.object = y.object ∧ z.chunk = y.chunk ∧ z.version = y.version ∧ z.bytes = y.bytes ∧ z.since = y.since ∧ z.last = y.last := by rw [← hk]; exact ⟨rfl, rfl, rfl, rfl, rfl, rfl⟩
  rw [e.1, e.2.1] at h1
  exact ⟨i, z, h1, h2, e.1, e.2.1, e.2.2.1, e.2.2.2.1, e.2.2.2.2.1, e.2.2.2.2.2, ho⟩
theorem stays {c : Cache} {o : Op} {n : Nat} (hi : Inv c n) (hn : n ≤ 999999) (ho : o.Ok) {y : Kept} (hy : y ∈ c.items) (hsk : ¬ Skip o (doM c o) y) (hout : idx y.object y.chunk (doM c o).out = none) : Stays (doM c o) y := by
  have hs := (doM_inv hi hn ho).1.good.sorted
  by_cases he : (doM c o).e = 0
  · have hc := good_check hi.good
    unfold Skip at hsk
    have hrest : ¬ (o.kind.tmod 4 = 0 ∧ y.last < o.n ∨ o.kind.tmod 4 = 3 ∧ y.object = o.k.object ∨ o.kind.tmod 4 = 1 ∧ y.object = o.k.object ∧ y.chunk = o.k.chunk) := fun q => hsk ⟨he, q⟩
    clear hsk
    have hk0 := ho.kind.1
    have hm1 : 0 ≤ o.kind.tmod 4 := Int.tmod_nonneg _ hk0
    have hm2 : o.kind.tmod 4 < 4 := Int.tmod_lt_of_pos _ (by decide)
    generalize hD : doM c o = D at *
    unfold doM at hD
    by_cases h0 : o.kind.tmod 4 = 0
    · rw [if_pos h0] at hD
      subst hD
      simp only [refTick, tick] at *
      rw [if_neg (by simpa using hc)] at *
      split at he
      · cases he
      rename_i h1; rw [if_neg h1] at *
      split at he
      · cases he
      rename_i h2; rw [if_neg h2] at *
      exact stays_of (z := y) hs (List.mem_filter.2 ⟨hy, decide_eq_true (by omega)⟩) rfl (by simp)
    · rw [if_neg h0] at hD
      by_cases h1 : o.kind.tmod 4 = 1
      · rw [if_pos h1] at hD
        subst hD
        simp only [refPut, put] at *
        rw [if_neg (by simpa using hc)] at *
        split at he
        · cases he
        rename_i e1; rw [if_neg e1] at *
        split at he
        · cases he
        rename_i e2; rw [if_neg e2] at *
        split at he
        · cases he
        rename_i e3; rw [if_neg e3] at *
        split at he
        · cases he
        rename_i e4; rw [if_neg e4] at *
        have hnk : ¬ SameKey y (now' c o.k) := by unfold SameKey; simp only [now']; omega
        have hmem := putL_keep hy hnk
        have hev := evict_all (room := c.room) (k := now' c o.k) hi.good.room.1 (putL (now' c o.k) c.items).length (putL (now' c o.k) c.items) (Nat.le_refl _) (putL_sorted hi.good.sorted) (fun x hx hxk => by
          rcases putL_mem hi.good.sorted hx with rfl | ⟨_, q⟩
          · simp only [now']; omega
          · exact absurd hxk q)
        rcases ((evict_perm c.room (now' c o.k) (putL (now' c o.k) c.items).length (putL (now' c o.k) c.items)).2 y).1 hmem with h | h
        · exact stays_of (z := y) hs h rfl (fun w hw => hev.2.2.1 w hw y h hnk)
        · exact absurd ⟨rfl, rfl⟩ (idx_none.1 hout y h)
      · rw [if_neg h1] at hD
        by_cases h2 : o.kind.tmod 4 = 2
        · rw [if_pos h2] at hD
          subst hD
          simp only [refGet, get] at *
          rw [if_neg (by simpa using hc)] at *
          cases hidx : idx o.k.object o.k.chunk c.items with
          | none => rw [hidx] at he; cases he
          | some i =>
            rw [hidx] at he hs
            simp only at he hs ⊢
            cases hxi : c.items[i]? with
            | none => rw [hxi] at he; cases he
            | some z =>
              rw [hxi] at he hs
              simp only at he hs ⊢
              split at he
              · cases he
              rename_i e1; rw [if_neg e1] at hs ⊢
              obtain ⟨j, hj⟩ := List.getElem?_of_mem hy
              have hjl := (List.getElem?_eq_some_iff.1 hj).1
              by_cases hij : i = j
              · subst hij
                rw [hxi] at hj; obtain rfl := Option.some.inj hj
                refine stays_of (z := { z with used := c.now }) hs ?_ rfl (by simp)
                exact List.mem_of_getElem? (i := i) (by rw [List.getElem?_set_self hjl])
              · refine stays_of (z := y) hs ?_ rfl (by simp)
                exact List.mem_of_getElem? (i := j) (by rw [List.getElem?_set_ne hij]; exact hj)
        · rw [if_neg h2] at hD
          subst hD
          simp only [refForget, forget] at *
          rw [if_neg (by simpa using hc)] at *
          exact stays_of (z := y) hs (List.mem_filter.2 ⟨hy, by simp; omega⟩) rfl (by simp)
  · refine stays_of (z := y) hs (by rw [doM_err he]; exact hy) rfl ?_
    rw [doM_errOut he]; simp
theorem em_eq (p : Prop) : (p ∧ p = True) ∨ (¬ p ∧ p = False) := by
  by_cases h : p
  · exact .inl ⟨h, eq_true h⟩
  · exact .inr ⟨h, eq_false h⟩
end Go.Proofs.Ytimapebigcmbmaa

set_option linter.unusedVariables false
set_option linter.unusedSimpArgs false
namespace Go.Proofs.Ytimapebigcmbmaa
open Go Go.AI Go.Proofs

def i7_R : IR := .seq (.seq (.region i7_13 [106, 107, 108, 109, 110, 111, 112, 113]) (.cond (.t 114) (.exit 3) .skip)) (.seq (.region i7_14 [114, 115, 116, 117, 118, 119, 120, 121, 122]) (.seq (.seq (.region i7_15 [123]) (.cond (.t 124) (.seq (.region i7_16 [1, 5, 7, 8, 9, 10, 11, 13, 124]) .ret) .skip)) (.seq (.region i7_17 [13, 124, 125, 126, 127, 128, 129, 130]) (.seq (.region i7_18 [131, 132, 133]) (.seq (.seq (.region i7_19 [14, 134, 135]) (.cond (.t 136) (.seq (.region i7_20 [1, 5, 7, 8, 9, 10, 11, 136]) .ret) .skip)) (.seq (.region i7_21 [136]) (.block 4 (.loop [] i7_L0))))))))
theorem i7_L1e : i7_L1 = .seq (.seq (.region i7_9 [42, 43, 44, 45]) (.cond (.t 46) .skip (.exit 2))) (.seq (.block 3 (.seq (.region i7_10 [46, 49, 50, 51, 52, 53]) (.seq (.region i7_11 [54, 55, 56, 57, 58, 59, 60, 61, 62, 63, 64, 65, 66, 67]) (.seq (.seq (.region i7_12 [12, 68, 69, 70, 71, 72, 73, 74, 75, 76, 77, 78, 79, 80, 81, 82, 83, 84, 85, 86, 87, 88, 89, 90, 91, 92, 93, 94, 95, 96, 97, 98, 99, 100, 101, 102, 103, 104, 105]) (.cond (.t 106) (.exit 3) .skip)) i7_R)))) i7_K0) := rfl
theorem L7i (all : List Op) (m j2 jy : Nat) (D : Made) (y : Kept) (h8 : AV) (n : Int) (Y : List Blk) (hY : Y[j2]? = some (.cells D.enc)) (hY2 : Y[jy]? = some (.cells y.enc)) (hD : ∀ w ∈ D.out, w.used ≤ y.used) (hl : D.out.length ≤ 1000000) (K : AX → State → Prop)
    (hK : ∀ i, K (.x 4) ⟨[(1, .c (.list 0 9 (rowsO all))), (5, .c (.ptr (some (0, 0)))), (7, .c (.int .i64 m)), (8, h8), (9, .c (.ptr (some (j2, 0)))), (10, .c (.int .i64 n)), (11, .c (.ptr (some (jy, 0)))), (15, .c (.int .i64 i)), (141, .c (.bool false))], Y⟩) :
    ∀ (post pre : List Kept), pre ++ post = D.out →
    (IR.loop [] i7_L0).go Try.prog ⟨[(1, .c (.list 0 9 (rowsO all))), (5, .c (.ptr (some (0, 0)))), (7, .c (.int .i64 m)), (8, h8), (9, .c (.ptr (some (j2, 0)))), (10, .c (.int .i64 n)), (11, .c (.ptr (some (jy, 0)))), (15, .c (.int .i64 pre.length))], Y⟩ K := by
  simp only [Made.enc, Kept.enc] at hY hY2
  intro post
  induction post with
  | nil =>
    intro pre hp
    have hlen : D.out.length = pre.length := by rw [← hp]; simp
    refine go_loop fun L hL => ?_
    simp -implicitDefEqProofs (disch := omega) only [i7_0, i7_1, i7_2, i7_3, i7_4, i7_5, i7_6, i7_7, i7_8, i7_9, i7_10, i7_11, i7_12, i7_13, i7_14, i7_15, i7_16, i7_17, i7_18, i7_19, i7_20, i7_21, i7_22, i7_23, i7_24, i7_25, i7_26, i7_27, i7_28, i7_29, i7_K0, i7_K1, i7_K2, i7_K3, i7, i7_L0, rowsK_len, hY, hlen, zS, State.step, State.pure, State.pure.capsOf, arrGo, State.ghosts, State.ghost, State.srcRows, State.arrRows, State.pure.fillC, State.bound, State.rd, takeC, args0, State.res, State.res1, State.resS, State.resL, normS, AC.pure, splice, ↓reduceIte, Nat.reduceEqDiff, Nat.reduceLT, Nat.reduceLeDiff, Nat.reduceAdd, Nat.reduceSub, Nat.reduceMul, Int.reduceLE, Int.reduceLT, Int.reduceToNat, Int.reduceEq, Int.reduceNe, Int.reduceAdd, Int.reduceMul, Int.reducePow, Int.reduceNeg, Nat.reduceBEq, Int.reduceBNe, Int.reduceBEq, reduceCtorEq, ne_eq, IntWalk.iteOmega]
    rw [hL]; exact hK _
  | cons x post ih =>
    intro pre hp
    have ih := ih (pre ++ [x]) (by rw [← hp]; simp)
    simp only [List.length_append, List.length_cons, List.length_nil, Nat.zero_add] at ih
    have hget := row_at hp
    have hlt : (pre.length : Int) < D.out.length := by rw [← hp]; simp; omega
    have q : ¬ (y.used < x.used) := by have := hD x (by rw [← hp]; simp); omega
    clear hK hD
    refine go_loop fun L hL => ?_
    simp -implicitDefEqProofs (disch := omega) only [i7_0, i7_1, i7_2, i7_3, i7_4, i7_5, i7_6, i7_7, i7_8, i7_9, i7_10, i7_11, i7_12, i7_13, i7_14, i7_15, i7_16, i7_17, i7_18, i7_19, i7_20, i7_21, i7_22, i7_23, i7_24, i7_25, i7_26, i7_27, i7_28, i7_29, i7_K0, i7_K1, i7_K2, i7_K3, i7, i7_L0, hlt, hget, rowsK_len, Kept.enc, hY, hY2, q, zS, State.step, State.pure, State.pure.capsOf, arrGo, State.ghosts, State.ghost, State.srcRows, State.arrRows, State.pure.fillC, State.bound, State.rd, takeC, args0, State.res, State.res1, State.resS, State.resL, normS, AC.pure, splice, ↓reduceIte, Nat.reduceEqDiff, Nat.reduceLT, Nat.reduceLeDiff, Nat.reduceAdd, Nat.reduceSub, Nat.reduceMul, Int.reduceLE, Int.reduceLT, Int.reduceToNat, Int.reduceEq, Int.reduceNe, Int.reduceAdd, Int.reduceMul, Int.reducePow, Int.reduceNeg, Nat.reduceBEq, Int.reduceBNe, Int.reduceBEq, reduceCtorEq, ne_eq, IntWalk.iteOmega]
    rw [hL]; exact ih
theorem S7 (all : List Op) (m j1 j2 : Nat) (o : Op) (D : Made) (y : Kept) (n : Nat) (X : List Blk) (C : List AC) (hX1 : X[j1]? = some (.cells o.enc)) (hX2 : X[j2]? = some (.cells D.enc)) (hll : D.c.items.length ≤ 1000000) (hol : D.out.length ≤ 1000000) (hn : n ≤ 1000000)
    (hst : idx y.object y.chunk D.out = none → Stays D y) (K : AX → State → Prop)
    (hK1 : K (.x 3) ⟨[(1, .c (.list 0 9 (rowsO all))), (5, .c (.ptr (some (0, 0)))), (7, .c (.int .i64 m)), (8, .c (.ptr (some (j1 + 1, 0)))), (9, .c (.ptr (some (j2 + 1, 0)))), (10, .c (.int .i64 n)), (11, .c (.ptr (some (X.length + 1, 0)))), (114, .c (.bool true))], .cells C :: (X ++ [.cells y.enc])⟩)
    (hK2 : ∀ X' i, K .n ⟨[(1, .c (.list 0 9 (rowsO all))), (5, .c (.ptr (some (0, 0)))), (7, .c (.int .i64 m)), (8, .c (.ptr (some (j1 + 1, 0)))), (9, .c (.ptr (some (j2 + 1, 0)))), (10, .c (.int .i64 n)), (11, .c (.ptr (some (X.length + 1, 0)))), (15, .c (.int .i64 i)), (141, .c (.bool false))], .cells C :: (X ++ X')⟩) :
    i7_R.go Try.prog ⟨[(1, .c (.list 0 9 (rowsO all))), (5, .c (.ptr (some (0, 0)))), (7, .c (.int .i64 m)), (8, .c (.ptr (some (j1 + 1, 0)))), (9, .c (.ptr (some (j2 + 1, 0)))), (10, .c (.int .i64 n)), (11, .c (.ptr (some (X.length + 1, 0)))), (106, .c (.bool false))], .cells C :: (X ++ [.cells y.enc])⟩ K := by
  have h19 := T19 D.out hol y.object y.chunk
  have h19b := T19 D.c.items hll y.object y.chunk
  have a1 : ∀ B, (X ++ [B])[j1]? = some (.cells o.enc) := fun B => by rw [List.getElem?_append_left (List.getElem?_eq_some_iff.1 hX1).1]; exact hX1
  have a2 : ∀ B, (X ++ [B])[j2]? = some (.cells D.enc) := fun B => by rw [List.getElem?_append_left (List.getElem?_eq_some_iff.1 hX2).1]; exact hX2
  have b2 : ∀ B C, (X ++ [B] ++ [C])[j2]? = some (.cells D.enc) := fun B C => by rw [List.append_assoc, List.getElem?_append_left (List.getElem?_eq_some_iff.1 hX2).1]; exact hX2
  simp only [Op.enc, Made.enc, Kept.enc] at a1 a2 b2
  cases hidx : idx y.object y.chunk D.out with
  | some i =>
    rw [hidx] at h19
    clear hst
    have hi0 : 0 ≤ (i : Int) := by omega
    simp -implicitDefEqProofs (disch := omega) only [i7_0, i7_1, i7_2, i7_3, i7_4, i7_5, i7_6, i7_7, i7_8, i7_9, i7_10, i7_11, i7_12, i7_13, i7_14, i7_15, i7_16, i7_17, i7_18, i7_19, i7_20, i7_21, i7_22, i7_23, i7_24, i7_25, i7_26, i7_27, i7_28, i7_29, i7, i7_R, a1, a2, Kept.enc, zS, State.step, State.pure, State.pure.capsOf, arrGo, State.ghosts, State.ghost, State.srcRows, State.arrRows, State.pure.fillC, State.bound, State.rd, takeC, args0, State.res, State.res1, State.resS, State.resL, normS, AC.pure, splice, ↓reduceIte, Nat.reduceEqDiff, Nat.reduceLT, Nat.reduceLeDiff, Nat.reduceAdd, Nat.reduceSub, Nat.reduceMul, Int.reduceLE, Int.reduceLT, Int.reduceToNat, Int.reduceEq, Int.reduceNe, Int.reduceAdd, Int.reduceMul, Int.reducePow, Int.reduceNeg, Nat.reduceBEq, Int.reduceBNe, Int.reduceBEq, reduceCtorEq, ne_eq, IntWalk.iteOmega]
    refine call_pure h19 rfl rfl ?_
    simp -implicitDefEqProofs (disch := omega) only [i7_0, i7_1, i7_2, i7_3, i7_4, i7_5, i7_6, i7_7, i7_8, i7_9, i7_10, i7_11, i7_12, i7_13, i7_14, i7_15, i7_16, i7_17, i7_18, i7_19, i7_20, i7_21, i7_22, i7_23, i7_24, i7_25, i7_26, i7_27, i7_28, i7_29, i7, a1, a2, idxI, hi0, zS, State.step, State.pure, State.pure.capsOf, arrGo, State.ghosts, State.ghost, State.srcRows, State.arrRows, State.pure.fillC, State.bound, State.rd, takeC, args0, State.res, State.res1, State.resS, State.resL, normS, AC.pure, splice, ↓reduceIte, Nat.reduceEqDiff, Nat.reduceLT, Nat.reduceLeDiff, Nat.reduceAdd, Nat.reduceSub, Nat.reduceMul, Int.reduceLE, Int.reduceLT, Int.reduceToNat, Int.reduceEq, Int.reduceNe, Int.reduceAdd, Int.reduceMul, Int.reducePow, Int.reduceNeg, Nat.reduceBEq, Int.reduceBNe, Int.reduceBEq, reduceCtorEq, ne_eq, IntWalk.iteOmega]
    exact hK1
  | none =>
    rw [hidx] at h19
    obtain ⟨i, z, g1, g2, g3, g4, g5, g6, g7, g8, g9⟩ := hst hidx
    rw [g1] at h19b
    simp -implicitDefEqProofs (disch := omega) only [i7_0, i7_1, i7_2, i7_3, i7_4, i7_5, i7_6, i7_7, i7_8, i7_9, i7_10, i7_11, i7_12, i7_13, i7_14, i7_15, i7_16, i7_17, i7_18, i7_19, i7_20, i7_21, i7_22, i7_23, i7_24, i7_25, i7_26, i7_27, i7_28, i7_29, i7, i7_R, a1, a2, Kept.enc, zS, State.step, State.pure, State.pure.capsOf, arrGo, State.ghosts, State.ghost, State.srcRows, State.arrRows, State.pure.fillC, State.bound, State.rd, takeC, args0, State.res, State.res1, State.resS, State.resL, normS, AC.pure, splice, ↓reduceIte, Nat.reduceEqDiff, Nat.reduceLT, Nat.reduceLeDiff, Nat.reduceAdd, Nat.reduceSub, Nat.reduceMul, Int.reduceLE, Int.reduceLT, Int.reduceToNat, Int.reduceEq, Int.reduceNe, Int.reduceAdd, Int.reduceMul, Int.reducePow, Int.reduceNeg, Nat.reduceBEq, Int.reduceBNe, Int.reduceBEq, reduceCtorEq, ne_eq, IntWalk.iteOmega]
    refine call_pure h19 rfl rfl ?_
    simp -implicitDefEqProofs (disch := omega) only [i7_0, i7_1, i7_2, i7_3, i7_4, i7_5, i7_6, i7_7, i7_8, i7_9, i7_10, i7_11, i7_12, i7_13, i7_14, i7_15, i7_16, i7_17, i7_18, i7_19, i7_20, i7_21, i7_22, i7_23, i7_24, i7_25, i7_26, i7_27, i7_28, i7_29, i7, a1, a2, idxI, zS, State.step, State.pure, State.pure.capsOf, arrGo, State.ghosts, State.ghost, State.srcRows, State.arrRows, State.pure.fillC, State.bound, State.rd, takeC, args0, State.res, State.res1, State.resS, State.resL, normS, AC.pure, splice, ↓reduceIte, Nat.reduceEqDiff, Nat.reduceLT, Nat.reduceLeDiff, Nat.reduceAdd, Nat.reduceSub, Nat.reduceMul, Int.reduceLE, Int.reduceLT, Int.reduceToNat, Int.reduceEq, Int.reduceNe, Int.reduceAdd, Int.reduceMul, Int.reducePow, Int.reduceNeg, Nat.reduceBEq, Int.reduceBNe, Int.reduceBEq, reduceCtorEq, ne_eq, IntWalk.iteOmega]
    refine call_pure h19b rfl rfl ?_
    have hil2 : i < D.c.items.length := (List.getElem?_eq_some_iff.1 g2).1
    have hrow : (rowsK D.c.items)[i]? = some z.enc := by rw [rowsK_get D.c.items i hil2, ← (List.getElem?_eq_some_iff.1 g2).2]
    have hil3 : (i : Int) < D.c.items.length := by omega
    have hi0 : ¬ ((i : Int) < 0) := by omega
    simp only [Kept.enc] at hrow
    simp -implicitDefEqProofs (disch := omega) only [i7_0, i7_1, i7_2, i7_3, i7_4, i7_5, i7_6, i7_7, i7_8, i7_9, i7_10, i7_11, i7_12, i7_13, i7_14, i7_15, i7_16, i7_17, i7_18, i7_19, i7_20, i7_21, i7_22, i7_23, i7_24, i7_25, i7_26, i7_27, i7_28, i7_29, i7, a1, a2, b2, idxI, hil3, hi0, hrow, rowsK_len, g3, g4, g5, g6, g7, g8, zS, State.step, State.pure, State.pure.capsOf, arrGo, State.ghosts, State.ghost, State.srcRows, State.arrRows, State.pure.fillC, State.bound, State.rd, takeC, args0, State.res, State.res1, State.resS, State.resL, normS, AC.pure, splice, ↓reduceIte, Nat.reduceEqDiff, Nat.reduceLT, Nat.reduceLeDiff, Nat.reduceAdd, Nat.reduceSub, Nat.reduceMul, Int.reduceLE, Int.reduceLT, Int.reduceToNat, Int.reduceEq, Int.reduceNe, Int.reduceAdd, Int.reduceMul, Int.reducePow, Int.reduceNeg, Nat.reduceBEq, Int.reduceBNe, Int.reduceBEq, reduceCtorEq, ne_eq, IntWalk.iteOmega]
    refine L7i all m (j2 + 1) (X.length + 1) D y _ n _ ?_ ?_ g9 hol _ (fun i => ?_) D.out [] rfl
    · simpa only [List.getElem?_cons_succ, Made.enc] using b2 _ _
    · simp only [List.getElem?_cons_succ, heap_b1, Kept.enc]
    · have := hK2 ([.cells y.enc] ++ [.cells y.enc]) i
      rw [← List.append_assoc] at this
      simp only [Kept.enc] at this
      simp -implicitDefEqProofs (disch := omega) only [zS, State.step, State.pure, State.pure.capsOf, arrGo, State.ghosts, State.ghost, State.srcRows, State.arrRows, State.pure.fillC, State.bound, State.rd, takeC, args0, State.res, State.res1, State.resS, State.resL, normS, AC.pure, splice, ↓reduceIte, Nat.reduceEqDiff, Nat.reduceLT, Nat.reduceLeDiff, Nat.reduceAdd, Nat.reduceSub, Nat.reduceMul, Int.reduceLE, Int.reduceLT, Int.reduceToNat, Int.reduceEq, Int.reduceNe, Int.reduceAdd, Int.reduceMul, Int.reducePow, Int.reduceNeg, Nat.reduceBEq, Int.reduceBNe, Int.reduceBEq, reduceCtorEq, ne_eq, IntWalk.iteOmega]
      exact this
set_option maxHeartbeats 2000000 in
theorem L7m (all : List Op) (m j1 j2 : Nat) (o : Op) (D : Made) (c : Cache) (hk : 0 ≤ o.kind ∧ o.kind < 256) (hcl : c.items.length ≤ 1000000) (hll : D.c.items.length ≤ 1000000) (hol : D.out.length ≤ 1000000)
    (hst : ∀ y ∈ c.items, ¬ Skip o D y → idx y.object y.chunk D.out = none → Stays D y) (K : AX → State → Prop)
    (hK : ∀ X i, X[j1]? = some (.cells o.enc) → X[j2]? = some (.cells D.enc) → K (.x 2) ⟨[(1, .c (.list 0 9 (rowsO all))), (5, .c (.ptr (some (0, 0)))), (7, .c (.int .i64 m)), (8, .c (.ptr (some (j1 + 1, 0)))), (9, .c (.ptr (some (j2 + 1, 0)))), (10, .c (.int .i64 i)), (46, .c (.bool false))], .cells c.enc :: X⟩) :
    ∀ (post pre : List Kept) (X : List Blk), pre ++ post = c.items → X[j1]? = some (.cells o.enc) → X[j2]? = some (.cells D.enc) →
    (IR.loop [] i7_L1).go Try.prog ⟨[(1, .c (.list 0 9 (rowsO all))), (5, .c (.ptr (some (0, 0)))), (7, .c (.int .i64 m)), (8, .c (.ptr (some (j1 + 1, 0)))), (9, .c (.ptr (some (j2 + 1, 0)))), (10, .c (.int .i64 pre.length))], .cells c.enc :: X⟩ K := by
  intro post
  induction post with
  | nil =>
    intro pre X hp h1 h2
    have hlen : c.items.length = pre.length := by rw [← hp]; simp
    have hK := hK X pre.length h1 h2
    simp only [Cache.enc] at hK
    refine go_loop fun L hL => ?_
    simp -implicitDefEqProofs (disch := omega) only [i7_0, i7_1, i7_2, i7_3, i7_4, i7_5, i7_6, i7_7, i7_8, i7_9, i7_10, i7_11, i7_12, i7_13, i7_14, i7_15, i7_16, i7_17, i7_18, i7_19, i7_20, i7_21, i7_22, i7_23, i7_24, i7_25, i7_26, i7_27, i7_28, i7_29, i7, i7_L1e, i7_9, i7_10, rowsK_len, hlen, Cache.enc, zS, State.step, State.pure, State.pure.capsOf, arrGo, State.ghosts, State.ghost, State.srcRows, State.arrRows, State.pure.fillC, State.bound, State.rd, takeC, args0, State.res, State.res1, State.resS, State.resL, normS, AC.pure, splice, ↓reduceIte, Nat.reduceEqDiff, Nat.reduceLT, Nat.reduceLeDiff, Nat.reduceAdd, Nat.reduceSub, Nat.reduceMul, Int.reduceLE, Int.reduceLT, Int.reduceToNat, Int.reduceEq, Int.reduceNe, Int.reduceAdd, Int.reduceMul, Int.reducePow, Int.reduceNeg, Nat.reduceBEq, Int.reduceBNe, Int.reduceBEq, reduceCtorEq, ne_eq, IntWalk.iteOmega]
    rw [hL]; exact hK
  | cons y post ih =>
    intro pre X hp h1 h2
    have hget := row_at hp
    have hlt : (pre.length : Int) < c.items.length := by rw [← hp]; simp; omega
    have hlt2 : (pre.length : Int) < 1000000 := by omega
    have ih := fun X' => ih (pre ++ [y]) (X ++ X') (by rw [← hp]; simp) (by rw [List.getElem?_append_left (List.getElem?_eq_some_iff.1 h1).1]; exact h1) (by rw [List.getElem?_append_left (List.getElem?_eq_some_iff.1 h2).1]; exact h2)
    simp only [List.length_append, List.length_cons, List.length_nil, Nat.zero_add, Cache.enc] at ih
    have hst := hst y (by rw [← hp]; simp)
    have a1 : ∀ B, (X ++ [B])[j1]? = some (.cells o.enc) := fun B => by rw [List.getElem?_append_left (List.getElem?_eq_some_iff.1 h1).1]; exact h1
    have a2 : ∀ B, (X ++ [B])[j2]? = some (.cells D.enc) := fun B => by rw [List.getElem?_append_left (List.getElem?_eq_some_iff.1 h2).1]; exact h2
    have hS := fun hns C K hK1 hK2 => S7 all m j1 j2 o D y pre.length X C h1 h2 hll hol (by omega) (hst hns) K hK1 hK2
    obtain ⟨hk1, hk2⟩ := hk
    have hm1 : 0 ≤ o.kind.tmod 4 := Int.tmod_nonneg _ hk1
    have hm2 : o.kind.tmod 4 < 4 := Int.tmod_lt_of_pos _ (by decide)
    clear hK hst h1 h2
    simp only [Op.enc, Made.enc, Kept.enc] at a1 a2 hget
    refine go_loop fun L hL => ?_
    have hno : ¬ Skip o D y → i7_R.go Try.prog ⟨[(1, .c (.list 0 9 (rowsO all))), (5, .c (.ptr (some (0, 0)))), (7, .c (.int .i64 m)), (8, .c (.ptr (some (j1 + 1, 0)))), (9, .c (.ptr (some (j2 + 1, 0)))), (10, .c (.int .i64 pre.length)), (11, .c (.ptr (some (X.length + 1, 0)))), (106, .c (.bool false))], .cells c.enc :: (X ++ [.cells y.enc])⟩ (blkK 3 (seqK Try.prog i7_K0 L)) := by
      intro hns
      refine hS hns _ _ ?_ fun X' i => ?_
      · simp -implicitDefEqProofs (disch := omega) only [i7_0, i7_1, i7_2, i7_3, i7_4, i7_5, i7_6, i7_7, i7_8, i7_9, i7_10, i7_11, i7_12, i7_13, i7_14, i7_15, i7_16, i7_17, i7_18, i7_19, i7_20, i7_21, i7_22, i7_23, i7_24, i7_25, i7_26, i7_27, i7_28, i7_29, i7_K0, i7_K1, i7_K2, i7_K3, i7, Cache.enc, zS, State.step, State.pure, State.pure.capsOf, arrGo, State.ghosts, State.ghost, State.srcRows, State.arrRows, State.pure.fillC, State.bound, State.rd, takeC, args0, State.res, State.res1, State.resS, State.resL, normS, AC.pure, splice, ↓reduceIte, Nat.reduceEqDiff, Nat.reduceLT, Nat.reduceLeDiff, Nat.reduceAdd, Nat.reduceSub, Nat.reduceMul, Int.reduceLE, Int.reduceLT, Int.reduceToNat, Int.reduceEq, Int.reduceNe, Int.reduceAdd, Int.reduceMul, Int.reducePow, Int.reduceNeg, Nat.reduceBEq, Int.reduceBNe, Int.reduceBEq, reduceCtorEq, ne_eq, IntWalk.iteOmega]
        rw [hL]; exact ih _
      · simp -implicitDefEqProofs (disch := omega) only [i7_0, i7_1, i7_2, i7_3, i7_4, i7_5, i7_6, i7_7, i7_8, i7_9, i7_10, i7_11, i7_12, i7_13, i7_14, i7_15, i7_16, i7_17, i7_18, i7_19, i7_20, i7_21, i7_22, i7_23, i7_24, i7_25, i7_26, i7_27, i7_28, i7_29, i7_K0, i7_K1, i7_K2, i7_K3, i7, Cache.enc, zS, State.step, State.pure, State.pure.capsOf, arrGo, State.ghosts, State.ghost, State.srcRows, State.arrRows, State.pure.fillC, State.bound, State.rd, takeC, args0, State.res, State.res1, State.resS, State.resL, normS, AC.pure, splice, ↓reduceIte, Nat.reduceEqDiff, Nat.reduceLT, Nat.reduceLeDiff, Nat.reduceAdd, Nat.reduceSub, Nat.reduceMul, Int.reduceLE, Int.reduceLT, Int.reduceToNat, Int.reduceEq, Int.reduceNe, Int.reduceAdd, Int.reduceMul, Int.reducePow, Int.reduceNeg, Nat.reduceBEq, Int.reduceBNe, Int.reduceBEq, reduceCtorEq, ne_eq, IntWalk.iteOmega]
        rw [hL]; exact ih _
    have hyes : (i7_K0).go Try.prog ⟨[(1, .c (.list 0 9 (rowsO all))), (5, .c (.ptr (some (0, 0)))), (7, .c (.int .i64 m)), (8, .c (.ptr (some (j1 + 1, 0)))), (9, .c (.ptr (some (j2 + 1, 0)))), (10, .c (.int .i64 pre.length)), (11, .c (.ptr (some (X.length + 1, 0)))), (106, .c (.bool true))], .cells c.enc :: (X ++ [.cells y.enc])⟩ L := by
      simp -implicitDefEqProofs (disch := omega) only [i7_0, i7_1, i7_2, i7_3, i7_4, i7_5, i7_6, i7_7, i7_8, i7_9, i7_10, i7_11, i7_12, i7_13, i7_14, i7_15, i7_16, i7_17, i7_18, i7_19, i7_20, i7_21, i7_22, i7_23, i7_24, i7_25, i7_26, i7_27, i7_28, i7_29, i7_K0, i7_K1, i7_K2, i7_K3, i7, Cache.enc, zS, State.step, State.pure, State.pure.capsOf, arrGo, State.ghosts, State.ghost, State.srcRows, State.arrRows, State.pure.fillC, State.bound, State.rd, takeC, args0, State.res, State.res1, State.resS, State.resL, normS, AC.pure, splice, ↓reduceIte, Nat.reduceEqDiff, Nat.reduceLT, Nat.reduceLeDiff, Nat.reduceAdd, Nat.reduceSub, Nat.reduceMul, Int.reduceLE, Int.reduceLT, Int.reduceToNat, Int.reduceEq, Int.reduceNe, Int.reduceAdd, Int.reduceMul, Int.reducePow, Int.reduceNeg, Nat.reduceBEq, Int.reduceBNe, Int.reduceBEq, reduceCtorEq, ne_eq, IntWalk.iteOmega]
      rw [hL]; exact ih _
    simp only [Cache.enc, Kept.enc] at hno hyes
    simp -implicitDefEqProofs (disch := omega) only [i7_L1e, i7_9, i7_10, hlt, hget, rowsK_len, Cache.enc, zS, State.step, State.pure, State.pure.capsOf, arrGo, State.ghosts, State.ghost, State.srcRows, State.arrRows, State.pure.fillC, State.bound, State.rd, takeC, args0, State.res, State.res1, State.resS, State.resL, normS, AC.pure, splice, ↓reduceIte, Nat.reduceEqDiff, Nat.reduceLT, Nat.reduceLeDiff, Nat.reduceAdd, Nat.reduceSub, Nat.reduceMul, Int.reduceLE, Int.reduceLT, Int.reduceToNat, Int.reduceEq, Int.reduceNe, Int.reduceAdd, Int.reduceMul, Int.reducePow, Int.reduceNeg, Nat.reduceBEq, Int.reduceBNe, Int.reduceBEq, reduceCtorEq, ne_eq, IntWalk.iteOmega]
    rcases em_eq (y.object = o.k.object) with ⟨co, qo⟩ | ⟨co, qo⟩ <;> rcases em_eq (y.chunk = o.k.chunk) with ⟨cc, qc⟩ | ⟨cc, qc⟩ <;> simp -implicitDefEqProofs (disch := omega) only [i7_11, a1, qo, qc, zS, State.step, State.pure, State.pure.capsOf, arrGo, State.ghosts, State.ghost, State.srcRows, State.arrRows, State.pure.fillC, State.bound, State.rd, takeC, args0, State.res, State.res1, State.resS, State.resL, normS, AC.pure, splice, ↓reduceIte, Nat.reduceEqDiff, Nat.reduceLT, Nat.reduceLeDiff, Nat.reduceAdd, Nat.reduceSub, Nat.reduceMul, Int.reduceLE, Int.reduceLT, Int.reduceToNat, Int.reduceEq, Int.reduceNe, Int.reduceAdd, Int.reduceMul, Int.reducePow, Int.reduceNeg, Nat.reduceBEq, Int.reduceBNe, Int.reduceBEq, reduceCtorEq, ne_eq, IntWalk.iteOmega]
    all_goals
      rcases em_eq (D.e = 0) with ⟨ce, q0⟩ | ⟨ce, q0⟩
      · rcases em_eq (o.kind.tmod 4 = 0) with ⟨c0, k0⟩ | ⟨c0, k0⟩
        · have k3 : (o.kind.tmod 4 = 3) = False := eq_false (by omega)
          have k1 : (o.kind.tmod 4 = 1) = False := eq_false (by omega)
          rcases em_eq (y.last < o.n) with ⟨cl, ql⟩ | ⟨cl, ql⟩ <;> simp -implicitDefEqProofs (disch := omega) only [i7_12, a1, a2, q0, k0, k1, k3, ql, zS, State.step, State.pure, State.pure.capsOf, arrGo, State.ghosts, State.ghost, State.srcRows, State.arrRows, State.pure.fillC, State.bound, State.rd, takeC, args0, State.res, State.res1, State.resS, State.resL, normS, AC.pure, splice, ↓reduceIte, Nat.reduceEqDiff, Nat.reduceLT, Nat.reduceLeDiff, Nat.reduceAdd, Nat.reduceSub, Nat.reduceMul, Int.reduceLE, Int.reduceLT, Int.reduceToNat, Int.reduceEq, Int.reduceNe, Int.reduceAdd, Int.reduceMul, Int.reducePow, Int.reduceNeg, Nat.reduceBEq, Int.reduceBNe, Int.reduceBEq, reduceCtorEq, ne_eq, IntWalk.iteOmega]
          · exact hyes
          · exact hno (by unfold Skip; omega)
        · rcases em_eq (o.kind.tmod 4 = 3) with ⟨c3, k3⟩ | ⟨c3, k3⟩
          · have k1 : (o.kind.tmod 4 = 1) = False := eq_false (by omega)
            simp -implicitDefEqProofs (disch := omega) only [i7_12, a1, a2, q0, k0, k1, k3, qo, zS, State.step, State.pure, State.pure.capsOf, arrGo, State.ghosts, State.ghost, State.srcRows, State.arrRows, State.pure.fillC, State.bound, State.rd, takeC, args0, State.res, State.res1, State.resS, State.resL, normS, AC.pure, splice, ↓reduceIte, Nat.reduceEqDiff, Nat.reduceLT, Nat.reduceLeDiff, Nat.reduceAdd, Nat.reduceSub, Nat.reduceMul, Int.reduceLE, Int.reduceLT, Int.reduceToNat, Int.reduceEq, Int.reduceNe, Int.reduceAdd, Int.reduceMul, Int.reducePow, Int.reduceNeg, Nat.reduceBEq, Int.reduceBNe, Int.reduceBEq, reduceCtorEq, ne_eq, IntWalk.iteOmega]
            first
              | exact hyes
              | exact hno (by unfold Skip; omega)
          · rcases em_eq (o.kind.tmod 4 = 1) with ⟨c1, k1⟩ | ⟨c1, k1⟩ <;> simp -implicitDefEqProofs (disch := omega) only [i7_12, a1, a2, q0, k0, k1, k3, zS, State.step, State.pure, State.pure.capsOf, arrGo, State.ghosts, State.ghost, State.srcRows, State.arrRows, State.pure.fillC, State.bound, State.rd, takeC, args0, State.res, State.res1, State.resS, State.resL, normS, AC.pure, splice, ↓reduceIte, Nat.reduceEqDiff, Nat.reduceLT, Nat.reduceLeDiff, Nat.reduceAdd, Nat.reduceSub, Nat.reduceMul, Int.reduceLE, Int.reduceLT, Int.reduceToNat, Int.reduceEq, Int.reduceNe, Int.reduceAdd, Int.reduceMul, Int.reducePow, Int.reduceNeg, Nat.reduceBEq, Int.reduceBNe, Int.reduceBEq, reduceCtorEq, ne_eq, IntWalk.iteOmega]
            · first
                | exact hyes
                | exact hno (by unfold Skip; omega)
            · exact hno (by unfold Skip; omega)
      · simp -implicitDefEqProofs (disch := omega) only [i7_12, a1, a2, q0, zS, State.step, State.pure, State.pure.capsOf, arrGo, State.ghosts, State.ghost, State.srcRows, State.arrRows, State.pure.fillC, State.bound, State.rd, takeC, args0, State.res, State.res1, State.resS, State.resL, normS, AC.pure, splice, ↓reduceIte, Nat.reduceEqDiff, Nat.reduceLT, Nat.reduceLeDiff, Nat.reduceAdd, Nat.reduceSub, Nat.reduceMul, Int.reduceLE, Int.reduceLT, Int.reduceToNat, Int.reduceEq, Int.reduceNe, Int.reduceAdd, Int.reduceMul, Int.reducePow, Int.reduceNeg, Nat.reduceBEq, Int.reduceBNe, Int.reduceBEq, reduceCtorEq, ne_eq, IntWalk.iteOmega]
        exact hno (fun h => ce h.1)
end Go.Proofs.Ytimapebigcmbmaa

set_option linter.unusedVariables false
set_option linter.unusedSimpArgs false
namespace Go.Proofs.Ytimapebigcmbmaa
open Go Go.AI Go.Proofs

theorem L7 (all : List Op) (hn : all.length ≤ 40) (ho : ∀ o ∈ all, o.Ok) (K : AX → State → Prop)
    (hK : ∀ H j, K (.x 0) ⟨[(1, .c (.list 0 9 (rowsO all))), (5, .c (.ptr (some (0, 0)))), (7, .c (.int .i64 j)), (32, .c (.bool false))], H⟩) :
    ∀ (post pre : List Op) (c : Cache), pre ++ post = all → Inv c pre.length → ∀ X, (IR.loop [] i7_L2).go Try.prog ⟨[(1, .c (.list 0 9 (rowsO all))), (5, .c (.ptr (some (0, 0)))), (7, .c (.int .i64 pre.length))], .cells c.enc :: X⟩ K := by
  intro post
  induction post with
  | nil =>
    intro pre c hp hi X
    obtain rfl : pre = all := by simpa using hp
    refine go_loop fun L hL => ?_
    simp -implicitDefEqProofs (disch := omega) only [i7_0, i7_1, i7_2, i7_3, i7_4, i7_5, i7_6, i7_7, i7_8, i7_9, i7_10, i7_11, i7_12, i7_13, i7_14, i7_15, i7_16, i7_17, i7_18, i7_19, i7_20, i7_21, i7_22, i7_23, i7_24, i7_25, i7_26, i7_27, i7_28, i7_29, i7, i7_L2, rowsO_len, zS, State.step, State.pure, State.pure.capsOf, arrGo, State.ghosts, State.ghost, State.srcRows, State.arrRows, State.pure.fillC, State.bound, State.rd, takeC, args0, State.res, State.res1, State.resS, State.resL, normS, AC.pure, splice, ↓reduceIte, Nat.reduceEqDiff, Nat.reduceLT, Nat.reduceLeDiff, Nat.reduceAdd, Nat.reduceSub, Nat.reduceMul, Int.reduceLE, Int.reduceLT, Int.reduceToNat, Int.reduceEq, Int.reduceNe, Int.reduceAdd, Int.reduceMul, Int.reducePow, Int.reduceNeg, Nat.reduceBEq, Int.reduceBNe, Int.reduceBEq, reduceCtorEq, ne_eq, IntWalk.iteOmega]
    rw [hL]; exact hK _ _
  | cons o post ih =>
    intro pre c hp hi X
    have hget := rowO_at hp
    have hpn : pre.length + 1 ≤ 40 := by rw [← hp] at hn; simp at hn; omega
    have hlt : (pre.length : Int) < all.length := by rw [← hp]; simp; omega
    have hoo := ho o (by rw [← hp]; simp)
    obtain ⟨g1, g2⟩ := doM_inv hi (by omega) hoo
    have hc := hi.toOk (by omega)
    have hil := hi.len
    have hgl := g1.len
    have h16 := T16 c o hc (by omega) hoo
    have hst : ∀ y ∈ c.items, ¬ Skip o (doM c o) y → idx y.object y.chunk (doM c o).out = none → Stays (doM c o) y := fun y hy h1 h2 => stays hi (by omega) hoo hy h1 h2
    have hN := ih (pre ++ [o]) (doM c o).c (by rw [← hp]; simp) (by simpa using g1)
    simp only [List.length_append, List.length_cons, List.length_nil, Nat.zero_add] at hN
    have hM := fun K hK => L7m all pre.length X.length (X ++ [Blk.cells o.enc]).length o (doM c o) c hoo.kind hc.few (by omega) (by omega) hst K hK c.items [] (X ++ [.cells o.enc] ++ [.cells (doM c o).enc]) rfl (heap_b1 _ _ _) (heap_last _ _)
    clear ih ho hi g1 g2 hoo hc hst
    generalize doM c o = D at *
    simp only [Cache.enc, Op.enc, Made.enc] at hN hM
    refine go_loop fun L hL => ?_
    simp -implicitDefEqProofs (disch := omega) only [i7_0, i7_1, i7_2, i7_3, i7_4, i7_5, i7_6, i7_7, i7_8, i7_9, i7_10, i7_11, i7_12, i7_13, i7_14, i7_15, i7_16, i7_17, i7_18, i7_19, i7_20, i7_21, i7_22, i7_23, i7_24, i7_25, i7_26, i7_27, i7_28, i7_29, i7, i7_L2, hlt, hget, rowsO_len, Cache.enc, Op.enc, zS, State.step, State.pure, State.pure.capsOf, arrGo, State.ghosts, State.ghost, State.srcRows, State.arrRows, State.pure.fillC, State.bound, State.rd, takeC, args0, State.res, State.res1, State.resS, State.resL, normS, AC.pure, splice, ↓reduceIte, Nat.reduceEqDiff, Nat.reduceLT, Nat.reduceLeDiff, Nat.reduceAdd, Nat.reduceSub, Nat.reduceMul, Int.reduceLE, Int.reduceLT, Int.reduceToNat, Int.reduceEq, Int.reduceNe, Int.reduceAdd, Int.reduceMul, Int.reducePow, Int.reduceNeg, Nat.reduceBEq, Int.reduceBNe, Int.reduceBEq, reduceCtorEq, ne_eq, IntWalk.iteOmega]
    refine call_pure h16 rfl rfl ?_
    simp -implicitDefEqProofs (disch := omega) only [i7_0, i7_1, i7_2, i7_3, i7_4, i7_5, i7_6, i7_7, i7_8, i7_9, i7_10, i7_11, i7_12, i7_13, i7_14, i7_15, i7_16, i7_17, i7_18, i7_19, i7_20, i7_21, i7_22, i7_23, i7_24, i7_25, i7_26, i7_27, i7_28, i7_29, i7, Made.enc, zS, State.step, State.pure, State.pure.capsOf, arrGo, State.ghosts, State.ghost, State.srcRows, State.arrRows, State.pure.fillC, State.bound, State.rd, takeC, args0, State.res, State.res1, State.resS, State.resL, normS, AC.pure, splice, ↓reduceIte, Nat.reduceEqDiff, Nat.reduceLT, Nat.reduceLeDiff, Nat.reduceAdd, Nat.reduceSub, Nat.reduceMul, Int.reduceLE, Int.reduceLT, Int.reduceToNat, Int.reduceEq, Int.reduceNe, Int.reduceAdd, Int.reduceMul, Int.reducePow, Int.reduceNeg, Nat.reduceBEq, Int.reduceBNe, Int.reduceBEq, reduceCtorEq, ne_eq, IntWalk.iteOmega]
    refine hM _ fun Y i h1 h2 => ?_
    simp -implicitDefEqProofs (disch := omega) only [i7_0, i7_1, i7_2, i7_3, i7_4, i7_5, i7_6, i7_7, i7_8, i7_9, i7_10, i7_11, i7_12, i7_13, i7_14, i7_15, i7_16, i7_17, i7_18, i7_19, i7_20, i7_21, i7_22, i7_23, i7_24, i7_25, i7_26, i7_27, i7_28, i7_29, i7_K0, i7_K1, i7_K2, i7_K3, i7, h2, zS, State.step, State.pure, State.pure.capsOf, arrGo, State.ghosts, State.ghost, State.srcRows, State.arrRows, State.pure.fillC, State.bound, State.rd, takeC, args0, State.res, State.res1, State.resS, State.resL, normS, AC.pure, splice, ↓reduceIte, Nat.reduceEqDiff, Nat.reduceLT, Nat.reduceLeDiff, Nat.reduceAdd, Nat.reduceSub, Nat.reduceMul, Int.reduceLE, Int.reduceLT, Int.reduceToNat, Int.reduceEq, Int.reduceNe, Int.reduceAdd, Int.reduceMul, Int.reducePow, Int.reduceNeg, Nat.reduceBEq, Int.reduceBNe, Int.reduceBEq, reduceCtorEq, ne_eq, IntWalk.iteOmega]
    rw [hL]
    exact hN _
theorem T7 (room : Int) (hr : I64 room) (l : List Op) (ho : ∀ o ∈ l, o.Ok) : RunsTo Try.prog 7 [.c (.int .i64 room), .c (.list 0 9 (rowsO l))] [] (.c (.bool true)) [] := by
  have h10 := T10n room hr
  by_cases hf : Few l
  · have h18 := T18n l true (by simp [hf])
    by_cases he : newE room = 0
    · have hL := fun K hK => L7 l hf.1 ho K hK l [] (newC room) rfl (new_inv he)
      clear ho
      generalize newC room = nc at *
      refine R7 (by simp) ?_
      simp -implicitDefEqProofs (disch := omega) only [i7_0, i7_1, i7_2, i7_3, i7_4, i7_5, i7_6, i7_7, i7_8, i7_9, i7_10, i7_11, i7_12, i7_13, i7_14, i7_15, i7_16, i7_17, i7_18, i7_19, i7_20, i7_21, i7_22, i7_23, i7_24, i7_25, i7_26, i7_27, i7_28, i7_29, i7, zS, State.step, State.pure, State.pure.capsOf, arrGo, State.ghosts, State.ghost, State.srcRows, State.arrRows, State.pure.fillC, State.bound, State.rd, takeC, args0, State.res, State.res1, State.resS, State.resL, normS, AC.pure, splice, ↓reduceIte, Nat.reduceEqDiff, Nat.reduceLT, Nat.reduceLeDiff, Nat.reduceAdd, Nat.reduceSub, Nat.reduceMul, Int.reduceLE, Int.reduceLT, Int.reduceToNat, Int.reduceEq, Int.reduceNe, Int.reduceAdd, Int.reduceMul, Int.reducePow, Int.reduceNeg, Nat.reduceBEq, Int.reduceBNe, Int.reduceBEq, reduceCtorEq, ne_eq, IntWalk.iteOmega]
      refine call_pure h10 rfl rfl ?_
      simp -implicitDefEqProofs (disch := omega) only [i7_0, i7_1, i7_2, i7_3, i7_4, i7_5, i7_6, i7_7, i7_8, i7_9, i7_10, i7_11, i7_12, i7_13, i7_14, i7_15, i7_16, i7_17, i7_18, i7_19, i7_20, i7_21, i7_22, i7_23, i7_24, i7_25, i7_26, i7_27, i7_28, i7_29, i7, Cache.enc, he, zS, State.step, State.pure, State.pure.capsOf, arrGo, State.ghosts, State.ghost, State.srcRows, State.arrRows, State.pure.fillC, State.bound, State.rd, takeC, args0, State.res, State.res1, State.resS, State.resL, normS, AC.pure, splice, ↓reduceIte, Nat.reduceEqDiff, Nat.reduceLT, Nat.reduceLeDiff, Nat.reduceAdd, Nat.reduceSub, Nat.reduceMul, Int.reduceLE, Int.reduceLT, Int.reduceToNat, Int.reduceEq, Int.reduceNe, Int.reduceAdd, Int.reduceMul, Int.reducePow, Int.reduceNeg, Nat.reduceBEq, Int.reduceBNe, Int.reduceBEq, reduceCtorEq, ne_eq, IntWalk.iteOmega]
      refine call_pure h18 rfl rfl ?_
      simp -implicitDefEqProofs (disch := omega) only [i7_0, i7_1, i7_2, i7_3, i7_4, i7_5, i7_6, i7_7, i7_8, i7_9, i7_10, i7_11, i7_12, i7_13, i7_14, i7_15, i7_16, i7_17, i7_18, i7_19, i7_20, i7_21, i7_22, i7_23, i7_24, i7_25, i7_26, i7_27, i7_28, i7_29, i7, zS, State.step, State.pure, State.pure.capsOf, arrGo, State.ghosts, State.ghost, State.srcRows, State.arrRows, State.pure.fillC, State.bound, State.rd, takeC, args0, State.res, State.res1, State.resS, State.resL, normS, AC.pure, splice, ↓reduceIte, Nat.reduceEqDiff, Nat.reduceLT, Nat.reduceLeDiff, Nat.reduceAdd, Nat.reduceSub, Nat.reduceMul, Int.reduceLE, Int.reduceLT, Int.reduceToNat, Int.reduceEq, Int.reduceNe, Int.reduceAdd, Int.reduceMul, Int.reducePow, Int.reduceNeg, Nat.reduceBEq, Int.reduceBNe, Int.reduceBEq, reduceCtorEq, ne_eq, IntWalk.iteOmega]
      refine hL _ (fun H j => ?_) _
      simp -implicitDefEqProofs (disch := omega) only [i7_0, i7_1, i7_2, i7_3, i7_4, i7_5, i7_6, i7_7, i7_8, i7_9, i7_10, i7_11, i7_12, i7_13, i7_14, i7_15, i7_16, i7_17, i7_18, i7_19, i7_20, i7_21, i7_22, i7_23, i7_24, i7_25, i7_26, i7_27, i7_28, i7_29, i7_K0, i7_K1, i7_K2, i7_K3, i7, zS, State.step, State.pure, State.pure.capsOf, arrGo, State.ghosts, State.ghost, State.srcRows, State.arrRows, State.pure.fillC, State.bound, State.rd, takeC, args0, State.res, State.res1, State.resS, State.resL, normS, AC.pure, splice, ↓reduceIte, Nat.reduceEqDiff, Nat.reduceLT, Nat.reduceLeDiff, Nat.reduceAdd, Nat.reduceSub, Nat.reduceMul, Int.reduceLE, Int.reduceLT, Int.reduceToNat, Int.reduceEq, Int.reduceNe, Int.reduceAdd, Int.reduceMul, Int.reducePow, Int.reduceNeg, Nat.reduceBEq, Int.reduceBNe, Int.reduceBEq, reduceCtorEq, ne_eq, IntWalk.iteOmega]
      refine call_pure T9 rfl rfl ?_
      simp -implicitDefEqProofs (disch := omega) only [zS, State.step, State.pure, State.pure.capsOf, arrGo, State.ghosts, State.ghost, State.srcRows, State.arrRows, State.pure.fillC, State.bound, State.rd, takeC, args0, State.res, State.res1, State.resS, State.resL, normS, AC.pure, splice, ↓reduceIte, Nat.reduceEqDiff, Nat.reduceLT, Nat.reduceLeDiff, Nat.reduceAdd, Nat.reduceSub, Nat.reduceMul, Int.reduceLE, Int.reduceLT, Int.reduceToNat, Int.reduceEq, Int.reduceNe, Int.reduceAdd, Int.reduceMul, Int.reducePow, Int.reduceNeg, Nat.reduceBEq, Int.reduceBNe, Int.reduceBEq, reduceCtorEq, ne_eq, IntWalk.iteOmega]
      (refine fin_pure rfl ?_ not_x_r; simp only [rs7, zS, State.step, State.pure, State.pure.capsOf, arrGo, State.ghosts, State.ghost, State.srcRows, State.arrRows, State.pure.fillC, State.bound, State.rd, takeC, args0, State.res, State.res1, State.resS, State.resL, normS, AC.pure, splice, ↓reduceIte, Nat.reduceEqDiff, Nat.reduceLT, Nat.reduceLeDiff, Nat.reduceAdd, Nat.reduceSub, Nat.reduceMul, Int.reduceLE, Int.reduceLT, Int.reduceToNat, Int.reduceEq, Int.reduceNe, Int.reduceAdd, Int.reduceMul, Int.reducePow, Int.reduceNeg, Nat.reduceBEq, Int.reduceBNe, Int.reduceBEq, reduceCtorEq, ne_eq, IntWalk.iteOmega])
    · generalize newC room = nc at *
      refine R7 (by simp) ?_
      simp -implicitDefEqProofs (disch := omega) only [i7_0, i7_1, i7_2, i7_3, i7_4, i7_5, i7_6, i7_7, i7_8, i7_9, i7_10, i7_11, i7_12, i7_13, i7_14, i7_15, i7_16, i7_17, i7_18, i7_19, i7_20, i7_21, i7_22, i7_23, i7_24, i7_25, i7_26, i7_27, i7_28, i7_29, i7, zS, State.step, State.pure, State.pure.capsOf, arrGo, State.ghosts, State.ghost, State.srcRows, State.arrRows, State.pure.fillC, State.bound, State.rd, takeC, args0, State.res, State.res1, State.resS, State.resL, normS, AC.pure, splice, ↓reduceIte, Nat.reduceEqDiff, Nat.reduceLT, Nat.reduceLeDiff, Nat.reduceAdd, Nat.reduceSub, Nat.reduceMul, Int.reduceLE, Int.reduceLT, Int.reduceToNat, Int.reduceEq, Int.reduceNe, Int.reduceAdd, Int.reduceMul, Int.reducePow, Int.reduceNeg, Nat.reduceBEq, Int.reduceBNe, Int.reduceBEq, reduceCtorEq, ne_eq, IntWalk.iteOmega]
      refine call_pure h10 rfl rfl ?_
      simp -implicitDefEqProofs (disch := omega) only [i7_0, i7_1, i7_2, i7_3, i7_4, i7_5, i7_6, i7_7, i7_8, i7_9, i7_10, i7_11, i7_12, i7_13, i7_14, i7_15, i7_16, i7_17, i7_18, i7_19, i7_20, i7_21, i7_22, i7_23, i7_24, i7_25, i7_26, i7_27, i7_28, i7_29, i7, Cache.enc, zS, State.step, State.pure, State.pure.capsOf, arrGo, State.ghosts, State.ghost, State.srcRows, State.arrRows, State.pure.fillC, State.bound, State.rd, takeC, args0, State.res, State.res1, State.resS, State.resL, normS, AC.pure, splice, ↓reduceIte, Nat.reduceEqDiff, Nat.reduceLT, Nat.reduceLeDiff, Nat.reduceAdd, Nat.reduceSub, Nat.reduceMul, Int.reduceLE, Int.reduceLT, Int.reduceToNat, Int.reduceEq, Int.reduceNe, Int.reduceAdd, Int.reduceMul, Int.reducePow, Int.reduceNeg, Nat.reduceBEq, Int.reduceBNe, Int.reduceBEq, reduceCtorEq, ne_eq, IntWalk.iteOmega]
      refine call_pure h18 rfl rfl ?_
      simp -implicitDefEqProofs (disch := omega) only [i7_0, i7_1, i7_2, i7_3, i7_4, i7_5, i7_6, i7_7, i7_8, i7_9, i7_10, i7_11, i7_12, i7_13, i7_14, i7_15, i7_16, i7_17, i7_18, i7_19, i7_20, i7_21, i7_22, i7_23, i7_24, i7_25, i7_26, i7_27, i7_28, i7_29, i7, he, zS, State.step, State.pure, State.pure.capsOf, arrGo, State.ghosts, State.ghost, State.srcRows, State.arrRows, State.pure.fillC, State.bound, State.rd, takeC, args0, State.res, State.res1, State.resS, State.resL, normS, AC.pure, splice, ↓reduceIte, Nat.reduceEqDiff, Nat.reduceLT, Nat.reduceLeDiff, Nat.reduceAdd, Nat.reduceSub, Nat.reduceMul, Int.reduceLE, Int.reduceLT, Int.reduceToNat, Int.reduceEq, Int.reduceNe, Int.reduceAdd, Int.reduceMul, Int.reducePow, Int.reduceNeg, Nat.reduceBEq, Int.reduceBNe, Int.reduceBEq, reduceCtorEq, ne_eq, IntWalk.iteOmega]
      refine call_pure T9 rfl rfl ?_
      simp -implicitDefEqProofs (disch := omega) only [zS, State.step, State.pure, State.pure.capsOf, arrGo, State.ghosts, State.ghost, State.srcRows, State.arrRows, State.pure.fillC, State.bound, State.rd, takeC, args0, State.res, State.res1, State.resS, State.resL, normS, AC.pure, splice, ↓reduceIte, Nat.reduceEqDiff, Nat.reduceLT, Nat.reduceLeDiff, Nat.reduceAdd, Nat.reduceSub, Nat.reduceMul, Int.reduceLE, Int.reduceLT, Int.reduceToNat, Int.reduceEq, Int.reduceNe, Int.reduceAdd, Int.reduceMul, Int.reducePow, Int.reduceNeg, Nat.reduceBEq, Int.reduceBNe, Int.reduceBEq, reduceCtorEq, ne_eq, IntWalk.iteOmega]
      (refine fin_pure rfl ?_ not_x_r; simp only [rs7, zS, State.step, State.pure, State.pure.capsOf, arrGo, State.ghosts, State.ghost, State.srcRows, State.arrRows, State.pure.fillC, State.bound, State.rd, takeC, args0, State.res, State.res1, State.resS, State.resL, normS, AC.pure, splice, ↓reduceIte, Nat.reduceEqDiff, Nat.reduceLT, Nat.reduceLeDiff, Nat.reduceAdd, Nat.reduceSub, Nat.reduceMul, Int.reduceLE, Int.reduceLT, Int.reduceToNat, Int.reduceEq, Int.reduceNe, Int.reduceAdd, Int.reduceMul, Int.reducePow, Int.reduceNeg, Nat.reduceBEq, Int.reduceBNe, Int.reduceBEq, reduceCtorEq, ne_eq, IntWalk.iteOmega])
  · have h18 := T18n l false (by simp [hf])
    generalize newC room = nc at *
    refine R7 (by simp) ?_
    simp -implicitDefEqProofs (disch := omega) only [i7_0, i7_1, i7_2, i7_3, i7_4, i7_5, i7_6, i7_7, i7_8, i7_9, i7_10, i7_11, i7_12, i7_13, i7_14, i7_15, i7_16, i7_17, i7_18, i7_19, i7_20, i7_21, i7_22, i7_23, i7_24, i7_25, i7_26, i7_27, i7_28, i7_29, i7, zS, State.step, State.pure, State.pure.capsOf, arrGo, State.ghosts, State.ghost, State.srcRows, State.arrRows, State.pure.fillC, State.bound, State.rd, takeC, args0, State.res, State.res1, State.resS, State.resL, normS, AC.pure, splice, ↓reduceIte, Nat.reduceEqDiff, Nat.reduceLT, Nat.reduceLeDiff, Nat.reduceAdd, Nat.reduceSub, Nat.reduceMul, Int.reduceLE, Int.reduceLT, Int.reduceToNat, Int.reduceEq, Int.reduceNe, Int.reduceAdd, Int.reduceMul, Int.reducePow, Int.reduceNeg, Nat.reduceBEq, Int.reduceBNe, Int.reduceBEq, reduceCtorEq, ne_eq, IntWalk.iteOmega]
    refine call_pure h10 rfl rfl ?_
    simp -implicitDefEqProofs (disch := omega) only [i7_0, i7_1, i7_2, i7_3, i7_4, i7_5, i7_6, i7_7, i7_8, i7_9, i7_10, i7_11, i7_12, i7_13, i7_14, i7_15, i7_16, i7_17, i7_18, i7_19, i7_20, i7_21, i7_22, i7_23, i7_24, i7_25, i7_26, i7_27, i7_28, i7_29, i7, Cache.enc, zS, State.step, State.pure, State.pure.capsOf, arrGo, State.ghosts, State.ghost, State.srcRows, State.arrRows, State.pure.fillC, State.bound, State.rd, takeC, args0, State.res, State.res1, State.resS, State.resL, normS, AC.pure, splice, ↓reduceIte, Nat.reduceEqDiff, Nat.reduceLT, Nat.reduceLeDiff, Nat.reduceAdd, Nat.reduceSub, Nat.reduceMul, Int.reduceLE, Int.reduceLT, Int.reduceToNat, Int.reduceEq, Int.reduceNe, Int.reduceAdd, Int.reduceMul, Int.reducePow, Int.reduceNeg, Nat.reduceBEq, Int.reduceBNe, Int.reduceBEq, reduceCtorEq, ne_eq, IntWalk.iteOmega]
    refine call_pure h18 rfl rfl ?_
    simp -implicitDefEqProofs (disch := omega) only [i7_0, i7_1, i7_2, i7_3, i7_4, i7_5, i7_6, i7_7, i7_8, i7_9, i7_10, i7_11, i7_12, i7_13, i7_14, i7_15, i7_16, i7_17, i7_18, i7_19, i7_20, i7_21, i7_22, i7_23, i7_24, i7_25, i7_26, i7_27, i7_28, i7_29, i7, zS, State.step, State.pure, State.pure.capsOf, arrGo, State.ghosts, State.ghost, State.srcRows, State.arrRows, State.pure.fillC, State.bound, State.rd, takeC, args0, State.res, State.res1, State.resS, State.resL, normS, AC.pure, splice, ↓reduceIte, Nat.reduceEqDiff, Nat.reduceLT, Nat.reduceLeDiff, Nat.reduceAdd, Nat.reduceSub, Nat.reduceMul, Int.reduceLE, Int.reduceLT, Int.reduceToNat, Int.reduceEq, Int.reduceNe, Int.reduceAdd, Int.reduceMul, Int.reducePow, Int.reduceNeg, Nat.reduceBEq, Int.reduceBNe, Int.reduceBEq, reduceCtorEq, ne_eq, IntWalk.iteOmega]
    refine call_pure T9 rfl rfl ?_
    simp -implicitDefEqProofs (disch := omega) only [zS, State.step, State.pure, State.pure.capsOf, arrGo, State.ghosts, State.ghost, State.srcRows, State.arrRows, State.pure.fillC, State.bound, State.rd, takeC, args0, State.res, State.res1, State.resS, State.resL, normS, AC.pure, splice, ↓reduceIte, Nat.reduceEqDiff, Nat.reduceLT, Nat.reduceLeDiff, Nat.reduceAdd, Nat.reduceSub, Nat.reduceMul, Int.reduceLE, Int.reduceLT, Int.reduceToNat, Int.reduceEq, Int.reduceNe, Int.reduceAdd, Int.reduceMul, Int.reducePow, Int.reduceNeg, Nat.reduceBEq, Int.reduceBNe, Int.reduceBEq, reduceCtorEq, ne_eq, IntWalk.iteOmega]
    (refine fin_pure rfl ?_ not_x_r; simp only [rs7, zS, State.step, State.pure, State.pure.capsOf, arrGo, State.ghosts, State.ghost, State.srcRows, State.arrRows, State.pure.fillC, State.bound, State.rd, takeC, args0, State.res, State.res1, State.resS, State.resL, normS, AC.pure, splice, ↓reduceIte, Nat.reduceEqDiff, Nat.reduceLT, Nat.reduceLeDiff, Nat.reduceAdd, Nat.reduceSub, Nat.reduceMul, Int.reduceLE, Int.reduceLT, Int.reduceToNat, Int.reduceEq, Int.reduceNe, Int.reduceAdd, Int.reduceMul, Int.reducePow, Int.reduceNeg, Nat.reduceBEq, Int.reduceBNe, Int.reduceBEq, reduceCtorEq, ne_eq, IntWalk.iteOmega])
end Go.Proofs.Ytimapebigcmbmaa
