/- A part of the proofs: a verified symbolic execution of Go's code, and what each function of the program computes; no conditions of its own. -/
import Derived.Test.YtimapebigcmbmaaK6
import Derived.KernelRfl
import Derived.Test.YtimapebigcmbmaaK3
import Derived.Test.YtimapebigcmbmaaK5

set_option linter.unusedVariables false
set_option linter.unusedSimpArgs false
namespace Go.Proofs.Ytimapebigcmbmaa
open Go Go.AI Go.Proofs

theorem E33 (c : Cache) (k : Kept) (hroom : 0 ≤ c.room) (l' o' : List Kept) (K : AX → State → Prop)
    (hK : ∀ lv lv', lv = 1 ∨ lv = 2 → lv' = 1 ∨ lv' = 2 → K (.x 2) ⟨[(2, .c (.ptr (some (0, 0)))), (3, .c (.ptr (some (1, 0)))), (4, .c (.ptr (some (2, 0)))), (8, .c (.list lv' 7 (rowsK l'))), (12, .c (.list lv 7 (rowsK o'))), (142, .c (.bool false))], fr33 c k⟩) :
    ∀ (m : Nat) (l out : List Kept) (lv lv' : Nat), l.length ≤ m → l.Pairwise Before → (∀ x ∈ l, SameKey x k → (x.bytes.size : Int) ≤ c.room) → l.length ≤ 1000000 → out.length + l.length ≤ 2000000 → tot l ≤ 1000000000000000 →
      (evict c.room k m l).1 = l' → out ++ (evict c.room k m l).2 = o' → lv = 1 ∨ lv = 2 → lv' = 1 ∨ lv' = 2 →
      (IR.loop [] i33_L2).go Try.prog ⟨[(2, .c (.ptr (some (0, 0)))), (3, .c (.ptr (some (1, 0)))), (4, .c (.ptr (some (2, 0)))), (8, .c (.list lv' 7 (rowsK l))), (12, .c (.list lv 7 (rowsK out)))], fr33 c k⟩ K := by
  intro m
  have stop : ∀ (m : Nat) (l out : List Kept) (lv lv' : Nat), l.length ≤ 1000000 → tot l ≤ 1000000000000000 → ¬ c.room < tot l → (evict c.room k m l).1 = l' → out ++ (evict c.room k m l).2 = o' → lv = 1 ∨ lv = 2 → lv' = 1 ∨ lv' = 2 →
      (IR.loop [] i33_L2).go Try.prog ⟨[(2, .c (.ptr (some (0, 0)))), (3, .c (.ptr (some (1, 0)))), (4, .c (.ptr (some (2, 0)))), (8, .c (.list lv' 7 (rowsK l))), (12, .c (.list lv 7 (rowsK out)))], fr33 c k⟩ K := by
    intro m l out lv lv' hn htot hr h1 h2 hlv hlv'
    have h30 := T30 l hn htot
    rw [evict_stop hr] at h1 h2
    simp only [List.append_nil] at h1 h2
    subst h1; subst h2
    have q : (c.room < ((tot l : Nat) : Int)) = False := eq_false hr
    have hKK := hK lv lv' hlv hlv'
    simp only [fr33, Cache.enc, Kept.enc, zM] at hKK
    clear htot
    refine go_loop fun L hL => ?_
    rcases hlv with rfl | rfl <;> rcases hlv' with rfl | rfl <;>
    · simp -implicitDefEqProofs (disch := omega) only [i33_0, i33_1, i33_2, i33_3, i33_4, i33_5, i33_6, i33_7, i33_8, i33_9, i33_10, i33_11, i33_12, i33_13, i33_14, i33_15, i33_16, i33_17, i33_18, i33_19, i33_20, i33_21, i33_22, i33_23, i33_24, i33_25, i33_26, i33_27, i33_28, i33_29, i33_30, i33_31, i33_32, i33_33, i33_34, i33_35, i33_36, i33_37, i33_38, i33_39, i33, i33_L2, fr33, Cache.enc, Kept.enc, zM, zS, State.step, State.pure, State.pure.capsOf, arrGo, State.ghosts, State.ghost, State.srcRows, State.arrRows, State.pure.fillC, State.bound, State.rd, takeC, args0, State.res, State.res1, State.resS, State.resL, normS, AC.pure, splice, ↓reduceIte, Nat.reduceEqDiff, Nat.reduceLT, Nat.reduceLeDiff, Nat.reduceAdd, Nat.reduceSub, Nat.reduceMul, Int.reduceLE, Int.reduceLT, Int.reduceToNat, Int.reduceEq, Int.reduceNe, Int.reduceAdd, Int.reduceMul, Int.reducePow, Int.reduceNeg, Nat.reduceBEq, Int.reduceBNe, Int.reduceBEq, reduceCtorEq, ne_eq, IntWalk.iteOmega]
      refine call_pure h30 rfl rfl ?_
      simp -implicitDefEqProofs (disch := omega) only [q, zS, State.step, State.pure, State.pure.capsOf, arrGo, State.ghosts, State.ghost, State.srcRows, State.arrRows, State.pure.fillC, State.bound, State.rd, takeC, args0, State.res, State.res1, State.resS, State.resL, normS, AC.pure, splice, ↓reduceIte, Nat.reduceEqDiff, Nat.reduceLT, Nat.reduceLeDiff, Nat.reduceAdd, Nat.reduceSub, Nat.reduceMul, Int.reduceLE, Int.reduceLT, Int.reduceToNat, Int.reduceEq, Int.reduceNe, Int.reduceAdd, Int.reduceMul, Int.reducePow, Int.reduceNeg, Nat.reduceBEq, Int.reduceBNe, Int.reduceBEq, reduceCtorEq, ne_eq, IntWalk.iteOmega]
      rw [hL]; exact hKK
  induction m with
  | zero =>
    intro l out lv lv' hm hs hsame hn hno htot h1 h2 hlv hlv'
    obtain rfl : l = [] := List.eq_nil_of_length_eq_zero (by omega)
    exact stop 0 [] out lv lv' hn htot (by simp [tot]; omega) h1 h2 hlv hlv'
  | succ m ih =>
    intro l out lv lv' hm hs hsame hn hno htot h1 h2 hlv hlv'
    by_cases hr : c.room < tot l
    · have h30 := T30 l hn htot
      obtain ⟨i, x, ho, hx, hnk, hil, _⟩ := oldI_some hs hsame hroom hr
      rw [evict_step hr ho hx] at h1 h2
      simp only at h1 h2
      have hlen : (l.eraseIdx i).length + 1 = l.length := by rw [List.length_eraseIdx]; simp [hil]; omega
      have hsub : (l.eraseIdx i).Sublist l := List.eraseIdx_sublist l i
      have hte := tot_erase hx
      have hN := ih (l.eraseIdx i) (out ++ [x]) 2 2 (by omega) (hs.sublist hsub) (fun y hy => hsame y (hsub.subset hy)) (by omega) (by simp; omega) (by omega) h1 (by rw [← h2]; simp) (.inr rfl) (.inr rfl)
      have hI := fun out lv hlv K hK => I33 c k l hn out lv hlv K hK l [] none rfl rfl (by intro x hx; cases hx)
      have hx' : (rowsK l)[i]? = some x.enc := by simp [rowsK, hx]
      have q : (c.room < ((tot l : Nat) : Int)) = True := eq_true hr
      have q1 : ((i : Int) < (l.length : Int)) = True := eq_true (by omega)
      have q2 : (i ≤ l.length) = True := eq_true (by omega)
      have q3 : (i + 1 ≤ l.length) = True := eq_true (by omega)
      have q4 : ((i : Int) + 1).toNat = i + 1 := by omega
      have hrow := rows_erase l i
      have hrl : (rowsK l).length = l.length := rowsK_len l
      have hol : (rowsK out).length = out.length := rowsK_len out
      have hd1 : ((rowsK l).take i).length = i := by rw [List.length_take, rowsK_len]; omega
      have hd2 : ((rowsK l).drop (i + 1)).length = l.length - (i + 1) := by rw [List.length_drop, rowsK_len]
      have hd3 : ((rowsK l).drop (i + 1)).take (l.length - (i + 1)) = (rowsK l).drop (i + 1) := List.take_of_length_le (by omega)
      have hi1 : i ≤ 1000000 := by omega
      have hl2 : i + (l.length - (i + 1)) ≤ 1000000 := by omega
      have hsn := rowsK_snoc out x
      simp only [Kept.enc] at hsn
      clear ih hs hsame hte htot hsub stop
      refine go_loop fun L hL => ?_
      rw [ho] at hI
      simp only [fr33, Cache.enc, Kept.enc, zM] at hI hN
      rcases hlv with rfl | rfl <;> rcases hlv' with rfl | rfl <;>
      · simp -implicitDefEqProofs (disch := omega) only [i33_0, i33_1, i33_2, i33_3, i33_4, i33_5, i33_6, i33_7, i33_8, i33_9, i33_10, i33_11, i33_12, i33_13, i33_14, i33_15, i33_16, i33_17, i33_18, i33_19, i33_20, i33_21, i33_22, i33_23, i33_24, i33_25, i33_26, i33_27, i33_28, i33_29, i33_30, i33_31, i33_32, i33_33, i33_34, i33_35, i33_36, i33_37, i33_38, i33_39, i33, i33_L2, fr33, Cache.enc, Kept.enc, zM, zS, State.step, State.pure, State.pure.capsOf, arrGo, State.ghosts, State.ghost, State.srcRows, State.arrRows, State.pure.fillC, State.bound, State.rd, takeC, args0, State.res, State.res1, State.resS, State.resL, normS, AC.pure, splice, ↓reduceIte, Nat.reduceEqDiff, Nat.reduceLT, Nat.reduceLeDiff, Nat.reduceAdd, Nat.reduceSub, Nat.reduceMul, Int.reduceLE, Int.reduceLT, Int.reduceToNat, Int.reduceEq, Int.reduceNe, Int.reduceAdd, Int.reduceMul, Int.reducePow, Int.reduceNeg, Nat.reduceBEq, Int.reduceBNe, Int.reduceBEq, reduceCtorEq, ne_eq, IntWalk.iteOmega]
        refine call_pure h30 rfl rfl ?_
        simp -implicitDefEqProofs (disch := omega) only [i33_0, i33_1, i33_2, i33_3, i33_4, i33_5, i33_6, i33_7, i33_8, i33_9, i33_10, i33_11, i33_12, i33_13, i33_14, i33_15, i33_16, i33_17, i33_18, i33_19, i33_20, i33_21, i33_22, i33_23, i33_24, i33_25, i33_26, i33_27, i33_28, i33_29, i33_30, i33_31, i33_32, i33_33, i33_34, i33_35, i33_36, i33_37, i33_38, i33_39, i33, q, zS, State.step, State.pure, State.pure.capsOf, arrGo, State.ghosts, State.ghost, State.srcRows, State.arrRows, State.pure.fillC, State.bound, State.rd, takeC, args0, State.res, State.res1, State.resS, State.resL, normS, AC.pure, splice, ↓reduceIte, Nat.reduceEqDiff, Nat.reduceLT, Nat.reduceLeDiff, Nat.reduceAdd, Nat.reduceSub, Nat.reduceMul, Int.reduceLE, Int.reduceLT, Int.reduceToNat, Int.reduceEq, Int.reduceNe, Int.reduceAdd, Int.reduceMul, Int.reducePow, Int.reduceNeg, Nat.reduceBEq, Int.reduceBNe, Int.reduceBEq, reduceCtorEq, ne_eq, IntWalk.iteOmega]
        refine hI _ _ (by first | exact .inl rfl | exact .inr rfl) _ (fun j => ?_)
        simp -implicitDefEqProofs (disch := omega) only [i33_0, i33_1, i33_2, i33_3, i33_4, i33_5, i33_6, i33_7, i33_8, i33_9, i33_10, i33_11, i33_12, i33_13, i33_14, i33_15, i33_16, i33_17, i33_18, i33_19, i33_20, i33_21, i33_22, i33_23, i33_24, i33_25, i33_26, i33_27, i33_28, i33_29, i33_30, i33_31, i33_32, i33_33, i33_34, i33_35, i33_36, i33_37, i33_38, i33_39, i33_K0, i33_K1, i33_K2, i33, idx2, hx', Kept.enc, q1, q2, q3, q4, hrow, hrl, hol, hd1, hd2, hd3, hsn, zS, State.step, State.pure, State.pure.capsOf, arrGo, State.ghosts, State.ghost, State.srcRows, State.arrRows, State.pure.fillC, State.bound, State.rd, takeC, args0, State.res, State.res1, State.resS, State.resL, normS, AC.pure, splice, ↓reduceIte, Nat.reduceEqDiff, Nat.reduceLT, Nat.reduceLeDiff, Nat.reduceAdd, Nat.reduceSub, Nat.reduceMul, Int.reduceLE, Int.reduceLT, Int.reduceToNat, Int.reduceEq, Int.reduceNe, Int.reduceAdd, Int.reduceMul, Int.reducePow, Int.reduceNeg, Nat.reduceBEq, Int.reduceBNe, Int.reduceBEq, reduceCtorEq, ne_eq, IntWalk.iteOmega]
        rw [hL]
        exact hN
    · exact stop (m + 1) l out lv lv' hn htot hr h1 h2 hlv hlv'
def refPut (c : Cache) (k : Kept) : Made := ⟨(put c k).1, (put c k).2.1, ⟨#[]⟩, 0, (put c k).2.2⟩
set_option maxHeartbeats 4000000 in
theorem T33 (c : Cache) (k : Kept) (hc : c.Ok) (hfew : c.items.length ≤ 999999) (hk : k.Ok) : RunsTo Try.prog 33 [.agg c.enc, .agg k.enc] [] (.agg (refPut c k).enc) [] := by
  have h13 := T13 c hc
  have h28 := T28 k c.now hk hc.now
  have hn := hc.few
  have h19 := T19 c.items hn k.object k.chunk
  have hpre := fun hg hr hsz => put_pre (k := k) hc hg hk hr hsz
  have hB := fun (hg : Good c) K hK => B33 c (now' c k) hn hg.sorted K hK c.items [] 1 rfl (.inl rfl)
  have hE := fun (hg : Good c) (hr : Right k c.now) (hsz : ¬ c.room < k.bytes.size) lv' hlv' K hK => E33 c (now' c k) hg.room.1 _ _ K hK _ (putL (now' c k) c.items) [] 1 lv' (Nat.le_refl _) (hpre hg hr hsz).1 (hpre hg hr hsz).2.2.1 (by have := putL_len (now' c k) c.items; omega) (by have := (hpre hg hr hsz).2.2.2.1; simp; omega) (by have := (hpre hg hr hsz).2.2.2.2.1; omega) rfl rfl (.inl rfl) hlv'
  have hkey : idx (now' c k).object (now' c k).chunk c.items = idx k.object k.chunk c.items := rfl
  have hae := acc_end (k := now' c k) (l := c.items)
  have hal := acc_len (now' c k) c.items c.items
  have hke : (now' c k).enc = [.int .i64 k.object, .int .i64 k.chunk, .int .i64 k.version, .str k.bytes, .int .i64 k.since, .int .i64 k.last, .int .i64 c.now] := rfl
  have hsn := rowsK_snoc (acc (now' c k) c.items c.items) (now' c k)
  rw [hke] at hsn
  refine nrm (Q33 (by simp) ?_)
  generalize hF : FinQ rs33 [] _ = F
  simp -implicitDefEqProofs (disch := omega) only [i33_0, i33_1, i33_2, i33_3, i33_4, i33_5, i33_6, i33_7, i33_8, i33_9, i33_10, i33_11, i33_12, i33_13, i33_14, i33_15, i33_16, i33_17, i33_18, i33_19, i33_20, i33_21, i33_22, i33_23, i33_24, i33_25, i33_26, i33_27, i33_28, i33_29, i33_30, i33_31, i33_32, i33_33, i33_34, i33_35, i33_36, i33_37, i33_38, i33_39, i33, Cache.enc, Kept.enc, zS, State.step, State.pure, State.pure.capsOf, arrGo, State.ghosts, State.ghost, State.srcRows, State.arrRows, State.pure.fillC, State.bound, State.rd, takeC, args0, State.res, State.res1, State.resS, State.resL, normS, AC.pure, splice, ↓reduceIte, Nat.reduceEqDiff, Nat.reduceLT, Nat.reduceLeDiff, Nat.reduceAdd, Nat.reduceSub, Nat.reduceMul, Int.reduceLE, Int.reduceLT, Int.reduceToNat, Int.reduceEq, Int.reduceNe, Int.reduceAdd, Int.reduceMul, Int.reducePow, Int.reduceNeg, Nat.reduceBEq, Int.reduceBNe, Int.reduceBEq, reduceCtorEq, ne_eq, IntWalk.iteOmega]
  refine call_pure h13 rfl rfl ?_
  simp -implicitDefEqProofs (disch := omega) only [i33_0, i33_1, i33_2, i33_3, i33_4, i33_5, i33_6, i33_7, i33_8, i33_9, i33_10, i33_11, i33_12, i33_13, i33_14, i33_15, i33_16, i33_17, i33_18, i33_19, i33_20, i33_21, i33_22, i33_23, i33_24, i33_25, i33_26, i33_27, i33_28, i33_29, i33_30, i33_31, i33_32, i33_33, i33_34, i33_35, i33_36, i33_37, i33_38, i33_39, i33, zS, State.step, State.pure, State.pure.capsOf, arrGo, State.ghosts, State.ghost, State.srcRows, State.arrRows, State.pure.fillC, State.bound, State.rd, takeC, args0, State.res, State.res1, State.resS, State.resL, normS, AC.pure, splice, ↓reduceIte, Nat.reduceEqDiff, Nat.reduceLT, Nat.reduceLeDiff, Nat.reduceAdd, Nat.reduceSub, Nat.reduceMul, Int.reduceLE, Int.reduceLT, Int.reduceToNat, Int.reduceEq, Int.reduceNe, Int.reduceAdd, Int.reduceMul, Int.reducePow, Int.reduceNeg, Nat.reduceBEq, Int.reduceBNe, Int.reduceBEq, reduceCtorEq, ne_eq, IntWalk.iteOmega]
  refine gCond_d (fun c1 c1' => ?_) (fun c1 c1' => ?_)
  rotate_left
  · have e : put c k = (c, [], check c) := by rw [put, if_pos c1]
    simp -implicitDefEqProofs (disch := omega) only [i33_0, i33_1, i33_2, i33_3, i33_4, i33_5, i33_6, i33_7, i33_8, i33_9, i33_10, i33_11, i33_12, i33_13, i33_14, i33_15, i33_16, i33_17, i33_18, i33_19, i33_20, i33_21, i33_22, i33_23, i33_24, i33_25, i33_26, i33_27, i33_28, i33_29, i33_30, i33_31, i33_32, i33_33, i33_34, i33_35, i33_36, i33_37, i33_38, i33_39, i33, zS, State.step, State.pure, State.pure.capsOf, arrGo, State.ghosts, State.ghost, State.srcRows, State.arrRows, State.pure.fillC, State.bound, State.rd, takeC, args0, State.res, State.res1, State.resS, State.resL, normS, AC.pure, splice, ↓reduceIte, Nat.reduceEqDiff, Nat.reduceLT, Nat.reduceLeDiff, Nat.reduceAdd, Nat.reduceSub, Nat.reduceMul, Int.reduceLE, Int.reduceLT, Int.reduceToNat, Int.reduceEq, Int.reduceNe, Int.reduceAdd, Int.reduceMul, Int.reducePow, Int.reduceNeg, Nat.reduceBEq, Int.reduceBNe, Int.reduceBEq, reduceCtorEq, ne_eq, IntWalk.iteOmega]
    subst hF
    (refine fin_pureN ?_ not_x_r; simp only [rs33, zS, State.step, State.pure, State.pure.capsOf, arrGo, State.ghosts, State.ghost, State.srcRows, State.arrRows, State.pure.fillC, State.bound, State.rd, takeC, args0, State.res, State.res1, State.resS, State.resL, normS, AC.pure, splice, ↓reduceIte, Nat.reduceEqDiff, Nat.reduceLT, Nat.reduceLeDiff, Nat.reduceAdd, Nat.reduceSub, Nat.reduceMul, Int.reduceLE, Int.reduceLT, Int.reduceToNat, Int.reduceEq, Int.reduceNe, Int.reduceAdd, Int.reduceMul, Int.reducePow, Int.reduceNeg, Nat.reduceBEq, Int.reduceBNe, Int.reduceBEq, reduceCtorEq, ne_eq, IntWalk.iteOmega]; refine ⟨_, rfl, rfl, ?_⟩)
    rw [refPut, e]; rfl
  have hg := check_good c1
  simp -implicitDefEqProofs (disch := omega) only [i33_0, i33_1, i33_2, i33_3, i33_4, i33_5, i33_6, i33_7, i33_8, i33_9, i33_10, i33_11, i33_12, i33_13, i33_14, i33_15, i33_16, i33_17, i33_18, i33_19, i33_20, i33_21, i33_22, i33_23, i33_24, i33_25, i33_26, i33_27, i33_28, i33_29, i33_30, i33_31, i33_32, i33_33, i33_34, i33_35, i33_36, i33_37, i33_38, i33_39, i33, zS, State.step, State.pure, State.pure.capsOf, arrGo, State.ghosts, State.ghost, State.srcRows, State.arrRows, State.pure.fillC, State.bound, State.rd, takeC, args0, State.res, State.res1, State.resS, State.resL, normS, AC.pure, splice, ↓reduceIte, Nat.reduceEqDiff, Nat.reduceLT, Nat.reduceLeDiff, Nat.reduceAdd, Nat.reduceSub, Nat.reduceMul, Int.reduceLE, Int.reduceLT, Int.reduceToNat, Int.reduceEq, Int.reduceNe, Int.reduceAdd, Int.reduceMul, Int.reducePow, Int.reduceNeg, Nat.reduceBEq, Int.reduceBNe, Int.reduceBEq, reduceCtorEq, ne_eq, IntWalk.iteOmega]
  refine call_pure h28 rfl rfl ?_
  simp -implicitDefEqProofs (disch := omega) only [i33_0, i33_1, i33_2, i33_3, i33_4, i33_5, i33_6, i33_7, i33_8, i33_9, i33_10, i33_11, i33_12, i33_13, i33_14, i33_15, i33_16, i33_17, i33_18, i33_19, i33_20, i33_21, i33_22, i33_23, i33_24, i33_25, i33_26, i33_27, i33_28, i33_29, i33_30, i33_31, i33_32, i33_33, i33_34, i33_35, i33_36, i33_37, i33_38, i33_39, i33, zS, State.step, State.pure, State.pure.capsOf, arrGo, State.ghosts, State.ghost, State.srcRows, State.arrRows, State.pure.fillC, State.bound, State.rd, takeC, args0, State.res, State.res1, State.resS, State.resL, normS, AC.pure, splice, ↓reduceIte, Nat.reduceEqDiff, Nat.reduceLT, Nat.reduceLeDiff, Nat.reduceAdd, Nat.reduceSub, Nat.reduceMul, Int.reduceLE, Int.reduceLT, Int.reduceToNat, Int.reduceEq, Int.reduceNe, Int.reduceAdd, Int.reduceMul, Int.reducePow, Int.reduceNeg, Nat.reduceBEq, Int.reduceBNe, Int.reduceBEq, reduceCtorEq, ne_eq, IntWalk.iteOmega]
  refine gCond_split (fun c2 => ?_) (fun c2 => ?_)
  rotate_left
  · have e : put c k = (c, [], 1) := by rw [put, if_neg (by simpa using c1), if_pos (of_decide_eq_false c2)]
    simp -implicitDefEqProofs (disch := omega) only [i33_0, i33_1, i33_2, i33_3, i33_4, i33_5, i33_6, i33_7, i33_8, i33_9, i33_10, i33_11, i33_12, i33_13, i33_14, i33_15, i33_16, i33_17, i33_18, i33_19, i33_20, i33_21, i33_22, i33_23, i33_24, i33_25, i33_26, i33_27, i33_28, i33_29, i33_30, i33_31, i33_32, i33_33, i33_34, i33_35, i33_36, i33_37, i33_38, i33_39, i33, zS, State.step, State.pure, State.pure.capsOf, arrGo, State.ghosts, State.ghost, State.srcRows, State.arrRows, State.pure.fillC, State.bound, State.rd, takeC, args0, State.res, State.res1, State.resS, State.resL, normS, AC.pure, splice, ↓reduceIte, Nat.reduceEqDiff, Nat.reduceLT, Nat.reduceLeDiff, Nat.reduceAdd, Nat.reduceSub, Nat.reduceMul, Int.reduceLE, Int.reduceLT, Int.reduceToNat, Int.reduceEq, Int.reduceNe, Int.reduceAdd, Int.reduceMul, Int.reducePow, Int.reduceNeg, Nat.reduceBEq, Int.reduceBNe, Int.reduceBEq, reduceCtorEq, ne_eq, IntWalk.iteOmega]
    subst hF
    (refine fin_pureN ?_ not_x_r; simp only [rs33, zS, State.step, State.pure, State.pure.capsOf, arrGo, State.ghosts, State.ghost, State.srcRows, State.arrRows, State.pure.fillC, State.bound, State.rd, takeC, args0, State.res, State.res1, State.resS, State.resL, normS, AC.pure, splice, ↓reduceIte, Nat.reduceEqDiff, Nat.reduceLT, Nat.reduceLeDiff, Nat.reduceAdd, Nat.reduceSub, Nat.reduceMul, Int.reduceLE, Int.reduceLT, Int.reduceToNat, Int.reduceEq, Int.reduceNe, Int.reduceAdd, Int.reduceMul, Int.reducePow, Int.reduceNeg, Nat.reduceBEq, Int.reduceBNe, Int.reduceBEq, reduceCtorEq, ne_eq, IntWalk.iteOmega]; refine ⟨_, rfl, rfl, ?_⟩)
    rw [refPut, e]; rfl
  have hr : Right k c.now := of_decide_eq_true c2
  simp -implicitDefEqProofs (disch := omega) only [i33_0, i33_1, i33_2, i33_3, i33_4, i33_5, i33_6, i33_7, i33_8, i33_9, i33_10, i33_11, i33_12, i33_13, i33_14, i33_15, i33_16, i33_17, i33_18, i33_19, i33_20, i33_21, i33_22, i33_23, i33_24, i33_25, i33_26, i33_27, i33_28, i33_29, i33_30, i33_31, i33_32, i33_33, i33_34, i33_35, i33_36, i33_37, i33_38, i33_39, i33, zS, State.step, State.pure, State.pure.capsOf, arrGo, State.ghosts, State.ghost, State.srcRows, State.arrRows, State.pure.fillC, State.bound, State.rd, takeC, args0, State.res, State.res1, State.resS, State.resL, normS, AC.pure, splice, ↓reduceIte, Nat.reduceEqDiff, Nat.reduceLT, Nat.reduceLeDiff, Nat.reduceAdd, Nat.reduceSub, Nat.reduceMul, Int.reduceLE, Int.reduceLT, Int.reduceToNat, Int.reduceEq, Int.reduceNe, Int.reduceAdd, Int.reduceMul, Int.reducePow, Int.reduceNeg, Nat.reduceBEq, Int.reduceBNe, Int.reduceBEq, reduceCtorEq, ne_eq, IntWalk.iteOmega]
  refine gCond_d (fun c3 c3' => ?_) (fun c3 c3' => ?_)
  · have e : put c k = (c, [], 18) := by rw [put, if_neg (by simpa using c1), if_neg (by simpa using hr), if_pos c3]
    simp -implicitDefEqProofs (disch := omega) only [i33_0, i33_1, i33_2, i33_3, i33_4, i33_5, i33_6, i33_7, i33_8, i33_9, i33_10, i33_11, i33_12, i33_13, i33_14, i33_15, i33_16, i33_17, i33_18, i33_19, i33_20, i33_21, i33_22, i33_23, i33_24, i33_25, i33_26, i33_27, i33_28, i33_29, i33_30, i33_31, i33_32, i33_33, i33_34, i33_35, i33_36, i33_37, i33_38, i33_39, i33, zS, State.step, State.pure, State.pure.capsOf, arrGo, State.ghosts, State.ghost, State.srcRows, State.arrRows, State.pure.fillC, State.bound, State.rd, takeC, args0, State.res, State.res1, State.resS, State.resL, normS, AC.pure, splice, ↓reduceIte, Nat.reduceEqDiff, Nat.reduceLT, Nat.reduceLeDiff, Nat.reduceAdd, Nat.reduceSub, Nat.reduceMul, Int.reduceLE, Int.reduceLT, Int.reduceToNat, Int.reduceEq, Int.reduceNe, Int.reduceAdd, Int.reduceMul, Int.reducePow, Int.reduceNeg, Nat.reduceBEq, Int.reduceBNe, Int.reduceBEq, reduceCtorEq, ne_eq, IntWalk.iteOmega]
    subst hF
    (refine fin_pureN ?_ not_x_r; simp only [rs33, zS, State.step, State.pure, State.pure.capsOf, arrGo, State.ghosts, State.ghost, State.srcRows, State.arrRows, State.pure.fillC, State.bound, State.rd, takeC, args0, State.res, State.res1, State.resS, State.resL, normS, AC.pure, splice, ↓reduceIte, Nat.reduceEqDiff, Nat.reduceLT, Nat.reduceLeDiff, Nat.reduceAdd, Nat.reduceSub, Nat.reduceMul, Int.reduceLE, Int.reduceLT, Int.reduceToNat, Int.reduceEq, Int.reduceNe, Int.reduceAdd, Int.reduceMul, Int.reducePow, Int.reduceNeg, Nat.reduceBEq, Int.reduceBNe, Int.reduceBEq, reduceCtorEq, ne_eq, IntWalk.iteOmega]; refine ⟨_, rfl, rfl, ?_⟩)
    rw [refPut, e]; rfl
  have hE := hE hg hr
  have hB := hB hg
  have hfin : ∀ (hsz : ¬ c.room < k.bytes.size) (hst : isStale c.items k = false), put c k = (⟨c.room, c.now, (evict c.room (now' c k) (putL (now' c k) c.items).length (putL (now' c k) c.items)).1⟩, (evict c.room (now' c k) (putL (now' c k) c.items).length (putL (now' c k) c.items)).2, 0) := fun hsz hst => by
    rw [put, if_neg (by simpa using c1), if_neg (by simpa using hr), if_neg c3, if_neg (by rw [hst]; simp), if_neg hsz]
  have e13 : ∀ (hsz : c.room < k.bytes.size) (hst : isStale c.items k = false), put c k = (c, [], 13) := fun hsz hst => by
    rw [put, if_neg (by simpa using c1), if_neg (by simpa using hr), if_neg c3, if_neg (by rw [hst]; simp), if_pos hsz]
  have hrest : ∀ (hsz : ¬ c.room < k.bytes.size) (hst : isStale c.items k = false), ∀ lv j, lv = 1 ∨ lv = 2 → blkK 0 (seqK Try.prog i33_K2 F) (.x 0) ⟨[(2, .c (.ptr (some (0, 0)))), (3, .c (.ptr (some (1, 0)))), (4, .c (.ptr (some (2, 0)))), (7, .c (.int .i64 (idxI (idx (now' c k).object (now' c k).chunk c.items)))), (8, .c (.list lv 7 (rowsK (acc (now' c k) c.items c.items)))), (9, .c (.bool (decide (mid (now' c k) c.items < c.items.length)))), (10, .c (.int .i64 j)), (97, .c (.bool false))], fr33 c (now' c k)⟩ := by
    intro hsz hst lv j hlv
    have e := hfin hsz hst
    have hE := hE hsz
    have hral : (rowsK (acc (now' c k) c.items c.items)).length = (acc (now' c k) c.items c.items).length := rowsK_len _
    have hal2 : (acc (now' c k) c.items c.items).length ≤ 1000000 := by omega
    simp only [fr33, Cache.enc, hke, zM] at hE
    by_cases hm : mid (now' c k) c.items < c.items.length
    · rw [if_pos hm] at hae
      have hm' : (mid (now' c k) c.items < c.items.length) = True := eq_true hm
      rcases hlv with rfl | rfl <;>
      · simp -implicitDefEqProofs (disch := omega) only [i33_0, i33_1, i33_2, i33_3, i33_4, i33_5, i33_6, i33_7, i33_8, i33_9, i33_10, i33_11, i33_12, i33_13, i33_14, i33_15, i33_16, i33_17, i33_18, i33_19, i33_20, i33_21, i33_22, i33_23, i33_24, i33_25, i33_26, i33_27, i33_28, i33_29, i33_30, i33_31, i33_32, i33_33, i33_34, i33_35, i33_36, i33_37, i33_38, i33_39, i33, i33_K2, fr33, Cache.enc, hke, zM, hm', hae, zS, State.step, State.pure, State.pure.capsOf, arrGo, State.ghosts, State.ghost, State.srcRows, State.arrRows, State.pure.fillC, State.bound, State.rd, takeC, args0, State.res, State.res1, State.resS, State.resL, normS, AC.pure, splice, ↓reduceIte, Nat.reduceEqDiff, Nat.reduceLT, Nat.reduceLeDiff, Nat.reduceAdd, Nat.reduceSub, Nat.reduceMul, Int.reduceLE, Int.reduceLT, Int.reduceToNat, Int.reduceEq, Int.reduceNe, Int.reduceAdd, Int.reduceMul, Int.reducePow, Int.reduceNeg, Nat.reduceBEq, Int.reduceBNe, Int.reduceBEq, reduceCtorEq, ne_eq, IntWalk.iteOmega]
        refine hE _ (by first | exact .inl rfl | exact .inr rfl) _ (fun lv lv' hlv hlv' => ?_)
        rcases hlv with rfl | rfl <;> rcases hlv' with rfl | rfl <;>
        · simp -implicitDefEqProofs (disch := omega) only [i33_0, i33_1, i33_2, i33_3, i33_4, i33_5, i33_6, i33_7, i33_8, i33_9, i33_10, i33_11, i33_12, i33_13, i33_14, i33_15, i33_16, i33_17, i33_18, i33_19, i33_20, i33_21, i33_22, i33_23, i33_24, i33_25, i33_26, i33_27, i33_28, i33_29, i33_30, i33_31, i33_32, i33_33, i33_34, i33_35, i33_36, i33_37, i33_38, i33_39, i33, i33_K1, zS, State.step, State.pure, State.pure.capsOf, arrGo, State.ghosts, State.ghost, State.srcRows, State.arrRows, State.pure.fillC, State.bound, State.rd, takeC, args0, State.res, State.res1, State.resS, State.resL, normS, AC.pure, splice, ↓reduceIte, Nat.reduceEqDiff, Nat.reduceLT, Nat.reduceLeDiff, Nat.reduceAdd, Nat.reduceSub, Nat.reduceMul, Int.reduceLE, Int.reduceLT, Int.reduceToNat, Int.reduceEq, Int.reduceNe, Int.reduceAdd, Int.reduceMul, Int.reducePow, Int.reduceNeg, Nat.reduceBEq, Int.reduceBNe, Int.reduceBEq, reduceCtorEq, ne_eq, IntWalk.iteOmega]
          subst hF
          (refine fin_pureN ?_ not_x_r; simp only [rs33, zS, State.step, State.pure, State.pure.capsOf, arrGo, State.ghosts, State.ghost, State.srcRows, State.arrRows, State.pure.fillC, State.bound, State.rd, takeC, args0, State.res, State.res1, State.resS, State.resL, normS, AC.pure, splice, ↓reduceIte, Nat.reduceEqDiff, Nat.reduceLT, Nat.reduceLeDiff, Nat.reduceAdd, Nat.reduceSub, Nat.reduceMul, Int.reduceLE, Int.reduceLT, Int.reduceToNat, Int.reduceEq, Int.reduceNe, Int.reduceAdd, Int.reduceMul, Int.reducePow, Int.reduceNeg, Nat.reduceBEq, Int.reduceBNe, Int.reduceBEq, reduceCtorEq, ne_eq, IntWalk.iteOmega]; refine ⟨_, rfl, rfl, ?_⟩)
          rw [refPut, e]; rfl
    · rw [if_neg hm] at hae
      have hm' : (mid (now' c k) c.items < c.items.length) = False := eq_false hm
      rcases hlv with rfl | rfl <;>
      · simp -implicitDefEqProofs (disch := omega) only [i33_0, i33_1, i33_2, i33_3, i33_4, i33_5, i33_6, i33_7, i33_8, i33_9, i33_10, i33_11, i33_12, i33_13, i33_14, i33_15, i33_16, i33_17, i33_18, i33_19, i33_20, i33_21, i33_22, i33_23, i33_24, i33_25, i33_26, i33_27, i33_28, i33_29, i33_30, i33_31, i33_32, i33_33, i33_34, i33_35, i33_36, i33_37, i33_38, i33_39, i33, i33_K2, fr33, Cache.enc, hke, zM, hm', hral, hsn, hae, zS, State.step, State.pure, State.pure.capsOf, arrGo, State.ghosts, State.ghost, State.srcRows, State.arrRows, State.pure.fillC, State.bound, State.rd, takeC, args0, State.res, State.res1, State.resS, State.resL, normS, AC.pure, splice, ↓reduceIte, Nat.reduceEqDiff, Nat.reduceLT, Nat.reduceLeDiff, Nat.reduceAdd, Nat.reduceSub, Nat.reduceMul, Int.reduceLE, Int.reduceLT, Int.reduceToNat, Int.reduceEq, Int.reduceNe, Int.reduceAdd, Int.reduceMul, Int.reducePow, Int.reduceNeg, Nat.reduceBEq, Int.reduceBNe, Int.reduceBEq, reduceCtorEq, ne_eq, IntWalk.iteOmega]
        refine hE _ (by first | exact .inl rfl | exact .inr rfl) _ (fun lv lv' hlv hlv' => ?_)
        rcases hlv with rfl | rfl <;> rcases hlv' with rfl | rfl <;>
        · simp -implicitDefEqProofs (disch := omega) only [i33_0, i33_1, i33_2, i33_3, i33_4, i33_5, i33_6, i33_7, i33_8, i33_9, i33_10, i33_11, i33_12, i33_13, i33_14, i33_15, i33_16, i33_17, i33_18, i33_19, i33_20, i33_21, i33_22, i33_23, i33_24, i33_25, i33_26, i33_27, i33_28, i33_29, i33_30, i33_31, i33_32, i33_33, i33_34, i33_35, i33_36, i33_37, i33_38, i33_39, i33, i33_K1, zS, State.step, State.pure, State.pure.capsOf, arrGo, State.ghosts, State.ghost, State.srcRows, State.arrRows, State.pure.fillC, State.bound, State.rd, takeC, args0, State.res, State.res1, State.resS, State.resL, normS, AC.pure, splice, ↓reduceIte, Nat.reduceEqDiff, Nat.reduceLT, Nat.reduceLeDiff, Nat.reduceAdd, Nat.reduceSub, Nat.reduceMul, Int.reduceLE, Int.reduceLT, Int.reduceToNat, Int.reduceEq, Int.reduceNe, Int.reduceAdd, Int.reduceMul, Int.reducePow, Int.reduceNeg, Nat.reduceBEq, Int.reduceBNe, Int.reduceBEq, reduceCtorEq, ne_eq, IntWalk.iteOmega]
          subst hF
          (refine fin_pureN ?_ not_x_r; simp only [rs33, zS, State.step, State.pure, State.pure.capsOf, arrGo, State.ghosts, State.ghost, State.srcRows, State.arrRows, State.pure.fillC, State.bound, State.rd, takeC, args0, State.res, State.res1, State.resS, State.resL, normS, AC.pure, splice, ↓reduceIte, Nat.reduceEqDiff, Nat.reduceLT, Nat.reduceLeDiff, Nat.reduceAdd, Nat.reduceSub, Nat.reduceMul, Int.reduceLE, Int.reduceLT, Int.reduceToNat, Int.reduceEq, Int.reduceNe, Int.reduceAdd, Int.reduceMul, Int.reducePow, Int.reduceNeg, Nat.reduceBEq, Int.reduceBNe, Int.reduceBEq, reduceCtorEq, ne_eq, IntWalk.iteOmega]; refine ⟨_, rfl, rfl, ?_⟩)
          rw [refPut, e]; rfl
  have hBB : ∀ (hsz : ¬ c.room < k.bytes.size) (hst : isStale c.items k = false), _ := fun hsz hst => hB _ (hrest hsz hst)
  clear hpre hrest hE hB
  rw [hkey] at hBB
  have hacc0 : acc (now' c k) c.items [] = [] := by unfold acc; simp
  simp only [fr33, Cache.enc, hke, zM, List.length_nil, hacc0] at hBB
  simp -implicitDefEqProofs (disch := omega) only [i33_0, i33_1, i33_2, i33_3, i33_4, i33_5, i33_6, i33_7, i33_8, i33_9, i33_10, i33_11, i33_12, i33_13, i33_14, i33_15, i33_16, i33_17, i33_18, i33_19, i33_20, i33_21, i33_22, i33_23, i33_24, i33_25, i33_26, i33_27, i33_28, i33_29, i33_30, i33_31, i33_32, i33_33, i33_34, i33_35, i33_36, i33_37, i33_38, i33_39, i33, zS, State.step, State.pure, State.pure.capsOf, arrGo, State.ghosts, State.ghost, State.srcRows, State.arrRows, State.pure.fillC, State.bound, State.rd, takeC, args0, State.res, State.res1, State.resS, State.resL, normS, AC.pure, splice, ↓reduceIte, Nat.reduceEqDiff, Nat.reduceLT, Nat.reduceLeDiff, Nat.reduceAdd, Nat.reduceSub, Nat.reduceMul, Int.reduceLE, Int.reduceLT, Int.reduceToNat, Int.reduceEq, Int.reduceNe, Int.reduceAdd, Int.reduceMul, Int.reducePow, Int.reduceNeg, Nat.reduceBEq, Int.reduceBNe, Int.reduceBEq, reduceCtorEq, ne_eq, IntWalk.iteOmega]
  refine call_pure h19 rfl rfl ?_
  cases hi : idx k.object k.chunk c.items with
  | none =>
    have hst : isStale c.items k = false := by unfold isStale; rw [hi]
    rw [hi] at hBB
    simp only [idxI] at hBB
    simp -implicitDefEqProofs (disch := omega) only [i33_0, i33_1, i33_2, i33_3, i33_4, i33_5, i33_6, i33_7, i33_8, i33_9, i33_10, i33_11, i33_12, i33_13, i33_14, i33_15, i33_16, i33_17, i33_18, i33_19, i33_20, i33_21, i33_22, i33_23, i33_24, i33_25, i33_26, i33_27, i33_28, i33_29, i33_30, i33_31, i33_32, i33_33, i33_34, i33_35, i33_36, i33_37, i33_38, i33_39, i33, idxI, zS, State.step, State.pure, State.pure.capsOf, arrGo, State.ghosts, State.ghost, State.srcRows, State.arrRows, State.pure.fillC, State.bound, State.rd, takeC, args0, State.res, State.res1, State.resS, State.resL, normS, AC.pure, splice, ↓reduceIte, Nat.reduceEqDiff, Nat.reduceLT, Nat.reduceLeDiff, Nat.reduceAdd, Nat.reduceSub, Nat.reduceMul, Int.reduceLE, Int.reduceLT, Int.reduceToNat, Int.reduceEq, Int.reduceNe, Int.reduceAdd, Int.reduceMul, Int.reducePow, Int.reduceNeg, Nat.reduceBEq, Int.reduceBNe, Int.reduceBEq, reduceCtorEq, ne_eq, IntWalk.iteOmega]
    refine gCond_d (fun c4 c4' => ?_) (fun c4 c4' => ?_)
    · have e := e13 c4 hst
      simp -implicitDefEqProofs (disch := omega) only [i33_0, i33_1, i33_2, i33_3, i33_4, i33_5, i33_6, i33_7, i33_8, i33_9, i33_10, i33_11, i33_12, i33_13, i33_14, i33_15, i33_16, i33_17, i33_18, i33_19, i33_20, i33_21, i33_22, i33_23, i33_24, i33_25, i33_26, i33_27, i33_28, i33_29, i33_30, i33_31, i33_32, i33_33, i33_34, i33_35, i33_36, i33_37, i33_38, i33_39, i33, zS, State.step, State.pure, State.pure.capsOf, arrGo, State.ghosts, State.ghost, State.srcRows, State.arrRows, State.pure.fillC, State.bound, State.rd, takeC, args0, State.res, State.res1, State.resS, State.resL, normS, AC.pure, splice, ↓reduceIte, Nat.reduceEqDiff, Nat.reduceLT, Nat.reduceLeDiff, Nat.reduceAdd, Nat.reduceSub, Nat.reduceMul, Int.reduceLE, Int.reduceLT, Int.reduceToNat, Int.reduceEq, Int.reduceNe, Int.reduceAdd, Int.reduceMul, Int.reducePow, Int.reduceNeg, Nat.reduceBEq, Int.reduceBNe, Int.reduceBEq, reduceCtorEq, ne_eq, IntWalk.iteOmega]
      subst hF
      (refine fin_pureN ?_ not_x_r; simp only [rs33, zS, State.step, State.pure, State.pure.capsOf, arrGo, State.ghosts, State.ghost, State.srcRows, State.arrRows, State.pure.fillC, State.bound, State.rd, takeC, args0, State.res, State.res1, State.resS, State.resL, normS, AC.pure, splice, ↓reduceIte, Nat.reduceEqDiff, Nat.reduceLT, Nat.reduceLeDiff, Nat.reduceAdd, Nat.reduceSub, Nat.reduceMul, Int.reduceLE, Int.reduceLT, Int.reduceToNat, Int.reduceEq, Int.reduceNe, Int.reduceAdd, Int.reduceMul, Int.reducePow, Int.reduceNeg, Nat.reduceBEq, Int.reduceBNe, Int.reduceBEq, reduceCtorEq, ne_eq, IntWalk.iteOmega]; refine ⟨_, rfl, rfl, ?_⟩)
      rw [refPut, e]; rfl
    · simp -implicitDefEqProofs (disch := omega) only [i33_0, i33_1, i33_2, i33_3, i33_4, i33_5, i33_6, i33_7, i33_8, i33_9, i33_10, i33_11, i33_12, i33_13, i33_14, i33_15, i33_16, i33_17, i33_18, i33_19, i33_20, i33_21, i33_22, i33_23, i33_24, i33_25, i33_26, i33_27, i33_28, i33_29, i33_30, i33_31, i33_32, i33_33, i33_34, i33_35, i33_36, i33_37, i33_38, i33_39, i33, zS, State.step, State.pure, State.pure.capsOf, arrGo, State.ghosts, State.ghost, State.srcRows, State.arrRows, State.pure.fillC, State.bound, State.rd, takeC, args0, State.res, State.res1, State.resS, State.resL, normS, AC.pure, splice, ↓reduceIte, Nat.reduceEqDiff, Nat.reduceLT, Nat.reduceLeDiff, Nat.reduceAdd, Nat.reduceSub, Nat.reduceMul, Int.reduceLE, Int.reduceLT, Int.reduceToNat, Int.reduceEq, Int.reduceNe, Int.reduceAdd, Int.reduceMul, Int.reducePow, Int.reduceNeg, Nat.reduceBEq, Int.reduceBNe, Int.reduceBEq, reduceCtorEq, ne_eq, IntWalk.iteOmega]
      exact hBB c4 hst
  | some i =>
    obtain ⟨x, hx, hkx⟩ := idx_some hi
    have hx' : (rowsK c.items)[i]? = some x.enc := by simp [rowsK, hx]
    have hil : i < c.items.length := (List.getElem?_eq_some_iff.1 hx).1
    have hst : isStale c.items k = decide (stale k x) := by unfold isStale; rw [hi]; simp only [hx]
    have e15 : stale k x → put c k = (c, [], 15) := fun hs => by
      rw [put, if_neg (by simpa using c1), if_neg (by simpa using hr), if_neg c3, if_pos (by rw [hst]; exact decide_eq_true hs)]
    have q0 : ((0 : Int) ≤ (i : Int)) = True := eq_true (by omega)
    rw [hi] at hBB
    simp only [idxI] at hBB
    simp -implicitDefEqProofs (disch := omega) only [i33_0, i33_1, i33_2, i33_3, i33_4, i33_5, i33_6, i33_7, i33_8, i33_9, i33_10, i33_11, i33_12, i33_13, i33_14, i33_15, i33_16, i33_17, i33_18, i33_19, i33_20, i33_21, i33_22, i33_23, i33_24, i33_25, i33_26, i33_27, i33_28, i33_29, i33_30, i33_31, i33_32, i33_33, i33_34, i33_35, i33_36, i33_37, i33_38, i33_39, i33, idxI, q0, hx', Kept.enc, zS, State.step, State.pure, State.pure.capsOf, arrGo, State.ghosts, State.ghost, State.srcRows, State.arrRows, State.pure.fillC, State.bound, State.rd, takeC, args0, State.res, State.res1, State.resS, State.resL, normS, AC.pure, splice, ↓reduceIte, Nat.reduceEqDiff, Nat.reduceLT, Nat.reduceLeDiff, Nat.reduceAdd, Nat.reduceSub, Nat.reduceMul, Int.reduceLE, Int.reduceLT, Int.reduceToNat, Int.reduceEq, Int.reduceNe, Int.reduceAdd, Int.reduceMul, Int.reducePow, Int.reduceNeg, Nat.reduceBEq, Int.reduceBNe, Int.reduceBEq, reduceCtorEq, ne_eq, IntWalk.iteOmega]
    repeat' (first | ((with_reducible first | refine gIf_dT (fun h h' => ?_) (fun h h' => ?_) | refine gIf_dF (fun h h' => ?_) (fun h h' => ?_) | refine gCond_d (fun h h' => ?_) (fun h h' => ?_) | refine gIf_bT (fun h h' => ?_) (fun h h' => ?_) | refine gIf_bF (fun h h' => ?_) (fun h h' => ?_) | refine gCond_b (fun h h' => ?_) (fun h h' => ?_)) <;> (simp -implicitDefEqProofs (disch := omega) only [h', i33_0, i33_1, i33_2, i33_3, i33_4, i33_5, i33_6, i33_7, i33_8, i33_9, i33_10, i33_11, i33_12, i33_13, i33_14, i33_15, i33_16, i33_17, i33_18, i33_19, i33_20, i33_21, i33_22, i33_23, i33_24, i33_25, i33_26, i33_27, i33_28, i33_29, i33_30, i33_31, i33_32, i33_33, i33_34, i33_35, i33_36, i33_37, i33_38, i33_39, i33, hx', Kept.enc, zS, State.step, State.pure, State.pure.capsOf, arrGo, State.ghosts, State.ghost, State.srcRows, State.arrRows, State.pure.fillC, State.bound, State.rd, takeC, args0, State.res, State.res1, State.resS, State.resL, normS, AC.pure, splice, ↓reduceIte, Nat.reduceEqDiff, Nat.reduceLT, Nat.reduceLeDiff, Nat.reduceAdd, Nat.reduceSub, Nat.reduceMul, Int.reduceLE, Int.reduceLT, Int.reduceToNat, Int.reduceEq, Int.reduceNe, Int.reduceAdd, Int.reduceMul, Int.reducePow, Int.reduceNeg, Nat.reduceBEq, Int.reduceBNe, Int.reduceBEq, reduceCtorEq, ne_eq, IntWalk.iteOmega] <;> clear h')))
    all_goals first
      | (have e := e15 (by unfold stale; omega)
         subst hF
         (refine fin_pureN ?_ not_x_r; simp only [rs33, zS, State.step, State.pure, State.pure.capsOf, arrGo, State.ghosts, State.ghost, State.srcRows, State.arrRows, State.pure.fillC, State.bound, State.rd, takeC, args0, State.res, State.res1, State.resS, State.resL, normS, AC.pure, splice, ↓reduceIte, Nat.reduceEqDiff, Nat.reduceLT, Nat.reduceLeDiff, Nat.reduceAdd, Nat.reduceSub, Nat.reduceMul, Int.reduceLE, Int.reduceLT, Int.reduceToNat, Int.reduceEq, Int.reduceNe, Int.reduceAdd, Int.reduceMul, Int.reducePow, Int.reduceNeg, Nat.reduceBEq, Int.reduceBNe, Int.reduceBEq, reduceCtorEq, ne_eq, IntWalk.iteOmega]; refine ⟨_, rfl, rfl, ?_⟩)
         rw [refPut, e]; rfl)
      | (have e := e13 (by omega) (by rw [hst]; exact decide_eq_false (by unfold stale; omega))
         subst hF
         (refine fin_pureN ?_ not_x_r; simp only [rs33, zS, State.step, State.pure, State.pure.capsOf, arrGo, State.ghosts, State.ghost, State.srcRows, State.arrRows, State.pure.fillC, State.bound, State.rd, takeC, args0, State.res, State.res1, State.resS, State.resL, normS, AC.pure, splice, ↓reduceIte, Nat.reduceEqDiff, Nat.reduceLT, Nat.reduceLeDiff, Nat.reduceAdd, Nat.reduceSub, Nat.reduceMul, Int.reduceLE, Int.reduceLT, Int.reduceToNat, Int.reduceEq, Int.reduceNe, Int.reduceAdd, Int.reduceMul, Int.reducePow, Int.reduceNeg, Nat.reduceBEq, Int.reduceBNe, Int.reduceBEq, reduceCtorEq, ne_eq, IntWalk.iteOmega]; refine ⟨_, rfl, rfl, ?_⟩)
         rw [refPut, e]; rfl)
      | exact hBB (by omega) (by rw [hst]; exact decide_eq_false (by unfold stale; omega))
end Go.Proofs.Ytimapebigcmbmaa

set_option linter.unusedVariables false
set_option linter.unusedSimpArgs false
namespace Go.Proofs.Ytimapebigcmbmaa
open Go Go.AI Go.Proofs

/-- An operation. -/
def doM (c : Cache) (o : Op) : Made :=
  if o.kind.tmod 4 = 0 then refTick c o.n else if o.kind.tmod 4 = 1 then refPut c o.k else if o.kind.tmod 4 = 2 then refGet c o.k.object o.k.chunk o.n else refForget c o.k.object
theorem T16 (c : Cache) (o : Op) (hc : c.Ok) (hfew : c.items.length ≤ 999999) (ho : o.Ok) : RunsTo Try.prog 16 [.agg c.enc, .agg o.enc] [] (.agg (doM c o).enc) [] := by
  have h22 := T22 c o.n hc
  have h20 := T20 c o.k hc hfew ho.k
  have h23 := T23 c o.k.object o.k.chunk o.n hc ho.k.object ho.k.chunk
  have h24 := T24 c o.k.object hc
  obtain ⟨hk1, hk2⟩ := ho.kind
  have hm1 : 0 ≤ o.kind.tmod 4 := Int.tmod_nonneg _ hk1
  have hm2 : o.kind.tmod 4 < 4 := Int.tmod_lt_of_pos _ (by decide)
  clear hc hfew ho
  refine nrm (Q16 (by simp) ?_)
  generalize hF : FinQ rs16 [] _ = F
  simp -implicitDefEqProofs (disch := omega) only [i16_0, i16_1, i16_2, i16_3, i16_4, i16_5, i16_6, i16_7, i16_8, i16_9, i16_10, i16_11, i16_12, i16, Cache.enc, Op.enc, zS, State.step, State.pure, State.pure.capsOf, arrGo, State.ghosts, State.ghost, State.srcRows, State.arrRows, State.pure.fillC, State.bound, State.rd, takeC, args0, State.res, State.res1, State.resS, State.resL, normS, AC.pure, splice, ↓reduceIte, Nat.reduceEqDiff, Nat.reduceLT, Nat.reduceLeDiff, Nat.reduceAdd, Nat.reduceSub, Nat.reduceMul, Int.reduceLE, Int.reduceLT, Int.reduceToNat, Int.reduceEq, Int.reduceNe, Int.reduceAdd, Int.reduceMul, Int.reducePow, Int.reduceNeg, Nat.reduceBEq, Int.reduceBNe, Int.reduceBEq, reduceCtorEq, ne_eq, IntWalk.iteOmega]
  refine gCond_d (fun c1 c1' => ?_) (fun c1 c1' => ?_)
  · have e : doM c o = refTick c o.n := by rw [doM, if_pos c1]
    simp -implicitDefEqProofs (disch := omega) only [i16_0, i16_1, i16_2, i16_3, i16_4, i16_5, i16_6, i16_7, i16_8, i16_9, i16_10, i16_11, i16_12, i16, zS, State.step, State.pure, State.pure.capsOf, arrGo, State.ghosts, State.ghost, State.srcRows, State.arrRows, State.pure.fillC, State.bound, State.rd, takeC, args0, State.res, State.res1, State.resS, State.resL, normS, AC.pure, splice, ↓reduceIte, Nat.reduceEqDiff, Nat.reduceLT, Nat.reduceLeDiff, Nat.reduceAdd, Nat.reduceSub, Nat.reduceMul, Int.reduceLE, Int.reduceLT, Int.reduceToNat, Int.reduceEq, Int.reduceNe, Int.reduceAdd, Int.reduceMul, Int.reducePow, Int.reduceNeg, Nat.reduceBEq, Int.reduceBNe, Int.reduceBEq, reduceCtorEq, ne_eq, IntWalk.iteOmega]
    refine call_pure h22 rfl rfl ?_
    simp -implicitDefEqProofs (disch := omega) only [i16_0, i16_1, i16_2, i16_3, i16_4, i16_5, i16_6, i16_7, i16_8, i16_9, i16_10, i16_11, i16_12, i16, Cache.enc, zS, State.step, State.pure, State.pure.capsOf, arrGo, State.ghosts, State.ghost, State.srcRows, State.arrRows, State.pure.fillC, State.bound, State.rd, takeC, args0, State.res, State.res1, State.resS, State.resL, normS, AC.pure, splice, ↓reduceIte, Nat.reduceEqDiff, Nat.reduceLT, Nat.reduceLeDiff, Nat.reduceAdd, Nat.reduceSub, Nat.reduceMul, Int.reduceLE, Int.reduceLT, Int.reduceToNat, Int.reduceEq, Int.reduceNe, Int.reduceAdd, Int.reduceMul, Int.reducePow, Int.reduceNeg, Nat.reduceBEq, Int.reduceBNe, Int.reduceBEq, reduceCtorEq, ne_eq, IntWalk.iteOmega]
    subst hF
    (refine fin_pureN ?_ not_x_r; simp only [rs16, zS, State.step, State.pure, State.pure.capsOf, arrGo, State.ghosts, State.ghost, State.srcRows, State.arrRows, State.pure.fillC, State.bound, State.rd, takeC, args0, State.res, State.res1, State.resS, State.resL, normS, AC.pure, splice, ↓reduceIte, Nat.reduceEqDiff, Nat.reduceLT, Nat.reduceLeDiff, Nat.reduceAdd, Nat.reduceSub, Nat.reduceMul, Int.reduceLE, Int.reduceLT, Int.reduceToNat, Int.reduceEq, Int.reduceNe, Int.reduceAdd, Int.reduceMul, Int.reducePow, Int.reduceNeg, Nat.reduceBEq, Int.reduceBNe, Int.reduceBEq, reduceCtorEq, ne_eq, IntWalk.iteOmega]; refine ⟨_, rfl, rfl, ?_⟩)
    rw [e]; rfl
  · simp -implicitDefEqProofs (disch := omega) only [i16_0, i16_1, i16_2, i16_3, i16_4, i16_5, i16_6, i16_7, i16_8, i16_9, i16_10, i16_11, i16_12, i16, zS, State.step, State.pure, State.pure.capsOf, arrGo, State.ghosts, State.ghost, State.srcRows, State.arrRows, State.pure.fillC, State.bound, State.rd, takeC, args0, State.res, State.res1, State.resS, State.resL, normS, AC.pure, splice, ↓reduceIte, Nat.reduceEqDiff, Nat.reduceLT, Nat.reduceLeDiff, Nat.reduceAdd, Nat.reduceSub, Nat.reduceMul, Int.reduceLE, Int.reduceLT, Int.reduceToNat, Int.reduceEq, Int.reduceNe, Int.reduceAdd, Int.reduceMul, Int.reducePow, Int.reduceNeg, Nat.reduceBEq, Int.reduceBNe, Int.reduceBEq, reduceCtorEq, ne_eq, IntWalk.iteOmega]
    refine gCond_d (fun c2 c2' => ?_) (fun c2 c2' => ?_)
    · have e : doM c o = refPut c o.k := by rw [doM, if_neg c1, if_pos c2]
      simp -implicitDefEqProofs (disch := omega) only [i16_0, i16_1, i16_2, i16_3, i16_4, i16_5, i16_6, i16_7, i16_8, i16_9, i16_10, i16_11, i16_12, i16, zS, State.step, State.pure, State.pure.capsOf, arrGo, State.ghosts, State.ghost, State.srcRows, State.arrRows, State.pure.fillC, State.bound, State.rd, takeC, args0, State.res, State.res1, State.resS, State.resL, normS, AC.pure, splice, ↓reduceIte, Nat.reduceEqDiff, Nat.reduceLT, Nat.reduceLeDiff, Nat.reduceAdd, Nat.reduceSub, Nat.reduceMul, Int.reduceLE, Int.reduceLT, Int.reduceToNat, Int.reduceEq, Int.reduceNe, Int.reduceAdd, Int.reduceMul, Int.reducePow, Int.reduceNeg, Nat.reduceBEq, Int.reduceBNe, Int.reduceBEq, reduceCtorEq, ne_eq, IntWalk.iteOmega]
      refine call_pure h20 rfl rfl ?_
      simp -implicitDefEqProofs (disch := omega) only [i16_0, i16_1, i16_2, i16_3, i16_4, i16_5, i16_6, i16_7, i16_8, i16_9, i16_10, i16_11, i16_12, i16, Cache.enc, zS, State.step, State.pure, State.pure.capsOf, arrGo, State.ghosts, State.ghost, State.srcRows, State.arrRows, State.pure.fillC, State.bound, State.rd, takeC, args0, State.res, State.res1, State.resS, State.resL, normS, AC.pure, splice, ↓reduceIte, Nat.reduceEqDiff, Nat.reduceLT, Nat.reduceLeDiff, Nat.reduceAdd, Nat.reduceSub, Nat.reduceMul, Int.reduceLE, Int.reduceLT, Int.reduceToNat, Int.reduceEq, Int.reduceNe, Int.reduceAdd, Int.reduceMul, Int.reducePow, Int.reduceNeg, Nat.reduceBEq, Int.reduceBNe, Int.reduceBEq, reduceCtorEq, ne_eq, IntWalk.iteOmega]
      subst hF
      (refine fin_pureN ?_ not_x_r; simp only [rs16, zS, State.step, State.pure, State.pure.capsOf, arrGo, State.ghosts, State.ghost, State.srcRows, State.arrRows, State.pure.fillC, State.bound, State.rd, takeC, args0, State.res, State.res1, State.resS, State.resL, normS, AC.pure, splice, ↓reduceIte, Nat.reduceEqDiff, Nat.reduceLT, Nat.reduceLeDiff, Nat.reduceAdd, Nat.reduceSub, Nat.reduceMul, Int.reduceLE, Int.reduceLT, Int.reduceToNat, Int.reduceEq, Int.reduceNe, Int.reduceAdd, Int.reduceMul, Int.reducePow, Int.reduceNeg, Nat.reduceBEq, Int.reduceBNe, Int.reduceBEq, reduceCtorEq, ne_eq, IntWalk.iteOmega]; refine ⟨_, rfl, rfl, ?_⟩)
      rw [e]; rfl
    · simp -implicitDefEqProofs (disch := omega) only [i16_0, i16_1, i16_2, i16_3, i16_4, i16_5, i16_6, i16_7, i16_8, i16_9, i16_10, i16_11, i16_12, i16, zS, State.step, State.pure, State.pure.capsOf, arrGo, State.ghosts, State.ghost, State.srcRows, State.arrRows, State.pure.fillC, State.bound, State.rd, takeC, args0, State.res, State.res1, State.resS, State.resL, normS, AC.pure, splice, ↓reduceIte, Nat.reduceEqDiff, Nat.reduceLT, Nat.reduceLeDiff, Nat.reduceAdd, Nat.reduceSub, Nat.reduceMul, Int.reduceLE, Int.reduceLT, Int.reduceToNat, Int.reduceEq, Int.reduceNe, Int.reduceAdd, Int.reduceMul, Int.reducePow, Int.reduceNeg, Nat.reduceBEq, Int.reduceBNe, Int.reduceBEq, reduceCtorEq, ne_eq, IntWalk.iteOmega]
      refine gCond_d (fun c3 c3' => ?_) (fun c3 c3' => ?_)
      · have e : doM c o = refGet c o.k.object o.k.chunk o.n := by rw [doM, if_neg c1, if_neg c2, if_pos c3]
        simp -implicitDefEqProofs (disch := omega) only [i16_0, i16_1, i16_2, i16_3, i16_4, i16_5, i16_6, i16_7, i16_8, i16_9, i16_10, i16_11, i16_12, i16, zS, State.step, State.pure, State.pure.capsOf, arrGo, State.ghosts, State.ghost, State.srcRows, State.arrRows, State.pure.fillC, State.bound, State.rd, takeC, args0, State.res, State.res1, State.resS, State.resL, normS, AC.pure, splice, ↓reduceIte, Nat.reduceEqDiff, Nat.reduceLT, Nat.reduceLeDiff, Nat.reduceAdd, Nat.reduceSub, Nat.reduceMul, Int.reduceLE, Int.reduceLT, Int.reduceToNat, Int.reduceEq, Int.reduceNe, Int.reduceAdd, Int.reduceMul, Int.reducePow, Int.reduceNeg, Nat.reduceBEq, Int.reduceBNe, Int.reduceBEq, reduceCtorEq, ne_eq, IntWalk.iteOmega]
        refine call_pure h23 rfl rfl ?_
        simp -implicitDefEqProofs (disch := omega) only [i16_0, i16_1, i16_2, i16_3, i16_4, i16_5, i16_6, i16_7, i16_8, i16_9, i16_10, i16_11, i16_12, i16, Cache.enc, zS, State.step, State.pure, State.pure.capsOf, arrGo, State.ghosts, State.ghost, State.srcRows, State.arrRows, State.pure.fillC, State.bound, State.rd, takeC, args0, State.res, State.res1, State.resS, State.resL, normS, AC.pure, splice, ↓reduceIte, Nat.reduceEqDiff, Nat.reduceLT, Nat.reduceLeDiff, Nat.reduceAdd, Nat.reduceSub, Nat.reduceMul, Int.reduceLE, Int.reduceLT, Int.reduceToNat, Int.reduceEq, Int.reduceNe, Int.reduceAdd, Int.reduceMul, Int.reducePow, Int.reduceNeg, Nat.reduceBEq, Int.reduceBNe, Int.reduceBEq, reduceCtorEq, ne_eq, IntWalk.iteOmega]
        subst hF
        (refine fin_pureN ?_ not_x_r; simp only [rs16, zS, State.step, State.pure, State.pure.capsOf, arrGo, State.ghosts, State.ghost, State.srcRows, State.arrRows, State.pure.fillC, State.bound, State.rd, takeC, args0, State.res, State.res1, State.resS, State.resL, normS, AC.pure, splice, ↓reduceIte, Nat.reduceEqDiff, Nat.reduceLT, Nat.reduceLeDiff, Nat.reduceAdd, Nat.reduceSub, Nat.reduceMul, Int.reduceLE, Int.reduceLT, Int.reduceToNat, Int.reduceEq, Int.reduceNe, Int.reduceAdd, Int.reduceMul, Int.reducePow, Int.reduceNeg, Nat.reduceBEq, Int.reduceBNe, Int.reduceBEq, reduceCtorEq, ne_eq, IntWalk.iteOmega]; refine ⟨_, rfl, rfl, ?_⟩)
        rw [e]; rfl
      · have e : doM c o = refForget c o.k.object := by rw [doM, if_neg c1, if_neg c2, if_neg c3]
        simp -implicitDefEqProofs (disch := omega) only [i16_0, i16_1, i16_2, i16_3, i16_4, i16_5, i16_6, i16_7, i16_8, i16_9, i16_10, i16_11, i16_12, i16, zS, State.step, State.pure, State.pure.capsOf, arrGo, State.ghosts, State.ghost, State.srcRows, State.arrRows, State.pure.fillC, State.bound, State.rd, takeC, args0, State.res, State.res1, State.resS, State.resL, normS, AC.pure, splice, ↓reduceIte, Nat.reduceEqDiff, Nat.reduceLT, Nat.reduceLeDiff, Nat.reduceAdd, Nat.reduceSub, Nat.reduceMul, Int.reduceLE, Int.reduceLT, Int.reduceToNat, Int.reduceEq, Int.reduceNe, Int.reduceAdd, Int.reduceMul, Int.reducePow, Int.reduceNeg, Nat.reduceBEq, Int.reduceBNe, Int.reduceBEq, reduceCtorEq, ne_eq, IntWalk.iteOmega]
        refine call_pure h24 rfl rfl ?_
        simp -implicitDefEqProofs (disch := omega) only [i16_0, i16_1, i16_2, i16_3, i16_4, i16_5, i16_6, i16_7, i16_8, i16_9, i16_10, i16_11, i16_12, i16, Cache.enc, zS, State.step, State.pure, State.pure.capsOf, arrGo, State.ghosts, State.ghost, State.srcRows, State.arrRows, State.pure.fillC, State.bound, State.rd, takeC, args0, State.res, State.res1, State.resS, State.resL, normS, AC.pure, splice, ↓reduceIte, Nat.reduceEqDiff, Nat.reduceLT, Nat.reduceLeDiff, Nat.reduceAdd, Nat.reduceSub, Nat.reduceMul, Int.reduceLE, Int.reduceLT, Int.reduceToNat, Int.reduceEq, Int.reduceNe, Int.reduceAdd, Int.reduceMul, Int.reducePow, Int.reduceNeg, Nat.reduceBEq, Int.reduceBNe, Int.reduceBEq, reduceCtorEq, ne_eq, IntWalk.iteOmega]
        subst hF
        (refine fin_pureN ?_ not_x_r; simp only [rs16, zS, State.step, State.pure, State.pure.capsOf, arrGo, State.ghosts, State.ghost, State.srcRows, State.arrRows, State.pure.fillC, State.bound, State.rd, takeC, args0, State.res, State.res1, State.resS, State.resL, normS, AC.pure, splice, ↓reduceIte, Nat.reduceEqDiff, Nat.reduceLT, Nat.reduceLeDiff, Nat.reduceAdd, Nat.reduceSub, Nat.reduceMul, Int.reduceLE, Int.reduceLT, Int.reduceToNat, Int.reduceEq, Int.reduceNe, Int.reduceAdd, Int.reduceMul, Int.reducePow, Int.reduceNeg, Nat.reduceBEq, Int.reduceBNe, Int.reduceBEq, reduceCtorEq, ne_eq, IntWalk.iteOmega]; refine ⟨_, rfl, rfl, ?_⟩)
        rw [e]; rfl
theorem T17 (c : Cache) (o : Op) (hc : c.Ok) (hfew : c.items.length ≤ 999999) (ho : o.Ok) : RunsTo Try.prog 17 [.agg c.enc, .agg o.enc] [] (.agg (doM c o).enc) [] := by
  have h22 := T32 c o.n hc
  have h20 := T33 c o.k hc hfew ho.k
  have h23 := T34 c o.k.object o.k.chunk o.n hc
  have h24 := T35 c o.k.object hc
  clear hc hfew ho
  refine nrm (Q17 (by simp) ?_)
  generalize hF : FinQ rs17 [] _ = F
  simp -implicitDefEqProofs (disch := omega) only [i17_0, i17_1, i17_2, i17_3, i17_4, i17_5, i17_6, i17_7, i17_8, i17, Cache.enc, Op.enc, zS, State.step, State.pure, State.pure.capsOf, arrGo, State.ghosts, State.ghost, State.srcRows, State.arrRows, State.pure.fillC, State.bound, State.rd, takeC, args0, State.res, State.res1, State.resS, State.resL, normS, AC.pure, splice, ↓reduceIte, Nat.reduceEqDiff, Nat.reduceLT, Nat.reduceLeDiff, Nat.reduceAdd, Nat.reduceSub, Nat.reduceMul, Int.reduceLE, Int.reduceLT, Int.reduceToNat, Int.reduceEq, Int.reduceNe, Int.reduceAdd, Int.reduceMul, Int.reducePow, Int.reduceNeg, Nat.reduceBEq, Int.reduceBNe, Int.reduceBEq, reduceCtorEq, ne_eq, IntWalk.iteOmega]
  refine gCond_d (fun c1 c1' => ?_) (fun c1 c1' => ?_)
  · have e : doM c o = refTick c o.n := by rw [doM, if_pos c1]
    simp -implicitDefEqProofs (disch := omega) only [i17_0, i17_1, i17_2, i17_3, i17_4, i17_5, i17_6, i17_7, i17_8, i17, zS, State.step, State.pure, State.pure.capsOf, arrGo, State.ghosts, State.ghost, State.srcRows, State.arrRows, State.pure.fillC, State.bound, State.rd, takeC, args0, State.res, State.res1, State.resS, State.resL, normS, AC.pure, splice, ↓reduceIte, Nat.reduceEqDiff, Nat.reduceLT, Nat.reduceLeDiff, Nat.reduceAdd, Nat.reduceSub, Nat.reduceMul, Int.reduceLE, Int.reduceLT, Int.reduceToNat, Int.reduceEq, Int.reduceNe, Int.reduceAdd, Int.reduceMul, Int.reducePow, Int.reduceNeg, Nat.reduceBEq, Int.reduceBNe, Int.reduceBEq, reduceCtorEq, ne_eq, IntWalk.iteOmega]
    refine call_pure h22 rfl rfl ?_
    simp -implicitDefEqProofs (disch := omega) only [i17_0, i17_1, i17_2, i17_3, i17_4, i17_5, i17_6, i17_7, i17_8, i17, Made.enc, zS, State.step, State.pure, State.pure.capsOf, arrGo, State.ghosts, State.ghost, State.srcRows, State.arrRows, State.pure.fillC, State.bound, State.rd, takeC, args0, State.res, State.res1, State.resS, State.resL, normS, AC.pure, splice, ↓reduceIte, Nat.reduceEqDiff, Nat.reduceLT, Nat.reduceLeDiff, Nat.reduceAdd, Nat.reduceSub, Nat.reduceMul, Int.reduceLE, Int.reduceLT, Int.reduceToNat, Int.reduceEq, Int.reduceNe, Int.reduceAdd, Int.reduceMul, Int.reducePow, Int.reduceNeg, Nat.reduceBEq, Int.reduceBNe, Int.reduceBEq, reduceCtorEq, ne_eq, IntWalk.iteOmega]
    subst hF
    (refine fin_pureN ?_ not_x_r; simp only [rs17, zS, State.step, State.pure, State.pure.capsOf, arrGo, State.ghosts, State.ghost, State.srcRows, State.arrRows, State.pure.fillC, State.bound, State.rd, takeC, args0, State.res, State.res1, State.resS, State.resL, normS, AC.pure, splice, ↓reduceIte, Nat.reduceEqDiff, Nat.reduceLT, Nat.reduceLeDiff, Nat.reduceAdd, Nat.reduceSub, Nat.reduceMul, Int.reduceLE, Int.reduceLT, Int.reduceToNat, Int.reduceEq, Int.reduceNe, Int.reduceAdd, Int.reduceMul, Int.reducePow, Int.reduceNeg, Nat.reduceBEq, Int.reduceBNe, Int.reduceBEq, reduceCtorEq, ne_eq, IntWalk.iteOmega]; refine ⟨_, rfl, rfl, ?_⟩)
    rw [e]; rfl
  · simp -implicitDefEqProofs (disch := omega) only [i17_0, i17_1, i17_2, i17_3, i17_4, i17_5, i17_6, i17_7, i17_8, i17, zS, State.step, State.pure, State.pure.capsOf, arrGo, State.ghosts, State.ghost, State.srcRows, State.arrRows, State.pure.fillC, State.bound, State.rd, takeC, args0, State.res, State.res1, State.resS, State.resL, normS, AC.pure, splice, ↓reduceIte, Nat.reduceEqDiff, Nat.reduceLT, Nat.reduceLeDiff, Nat.reduceAdd, Nat.reduceSub, Nat.reduceMul, Int.reduceLE, Int.reduceLT, Int.reduceToNat, Int.reduceEq, Int.reduceNe, Int.reduceAdd, Int.reduceMul, Int.reducePow, Int.reduceNeg, Nat.reduceBEq, Int.reduceBNe, Int.reduceBEq, reduceCtorEq, ne_eq, IntWalk.iteOmega]
    refine gCond_d (fun c2 c2' => ?_) (fun c2 c2' => ?_)
    · have e : doM c o = refPut c o.k := by rw [doM, if_neg c1, if_pos c2]
      simp -implicitDefEqProofs (disch := omega) only [i17_0, i17_1, i17_2, i17_3, i17_4, i17_5, i17_6, i17_7, i17_8, i17, zS, State.step, State.pure, State.pure.capsOf, arrGo, State.ghosts, State.ghost, State.srcRows, State.arrRows, State.pure.fillC, State.bound, State.rd, takeC, args0, State.res, State.res1, State.resS, State.resL, normS, AC.pure, splice, ↓reduceIte, Nat.reduceEqDiff, Nat.reduceLT, Nat.reduceLeDiff, Nat.reduceAdd, Nat.reduceSub, Nat.reduceMul, Int.reduceLE, Int.reduceLT, Int.reduceToNat, Int.reduceEq, Int.reduceNe, Int.reduceAdd, Int.reduceMul, Int.reducePow, Int.reduceNeg, Nat.reduceBEq, Int.reduceBNe, Int.reduceBEq, reduceCtorEq, ne_eq, IntWalk.iteOmega]
      refine call_pure h20 rfl rfl ?_
      simp -implicitDefEqProofs (disch := omega) only [i17_0, i17_1, i17_2, i17_3, i17_4, i17_5, i17_6, i17_7, i17_8, i17, Made.enc, zS, State.step, State.pure, State.pure.capsOf, arrGo, State.ghosts, State.ghost, State.srcRows, State.arrRows, State.pure.fillC, State.bound, State.rd, takeC, args0, State.res, State.res1, State.resS, State.resL, normS, AC.pure, splice, ↓reduceIte, Nat.reduceEqDiff, Nat.reduceLT, Nat.reduceLeDiff, Nat.reduceAdd, Nat.reduceSub, Nat.reduceMul, Int.reduceLE, Int.reduceLT, Int.reduceToNat, Int.reduceEq, Int.reduceNe, Int.reduceAdd, Int.reduceMul, Int.reducePow, Int.reduceNeg, Nat.reduceBEq, Int.reduceBNe, Int.reduceBEq, reduceCtorEq, ne_eq, IntWalk.iteOmega]
      subst hF
      (refine fin_pureN ?_ not_x_r; simp only [rs17, zS, State.step, State.pure, State.pure.capsOf, arrGo, State.ghosts, State.ghost, State.srcRows, State.arrRows, State.pure.fillC, State.bound, State.rd, takeC, args0, State.res, State.res1, State.resS, State.resL, normS, AC.pure, splice, ↓reduceIte, Nat.reduceEqDiff, Nat.reduceLT, Nat.reduceLeDiff, Nat.reduceAdd, Nat.reduceSub, Nat.reduceMul, Int.reduceLE, Int.reduceLT, Int.reduceToNat, Int.reduceEq, Int.reduceNe, Int.reduceAdd, Int.reduceMul, Int.reducePow, Int.reduceNeg, Nat.reduceBEq, Int.reduceBNe, Int.reduceBEq, reduceCtorEq, ne_eq, IntWalk.iteOmega]; refine ⟨_, rfl, rfl, ?_⟩)
      rw [e]; rfl
    · simp -implicitDefEqProofs (disch := omega) only [i17_0, i17_1, i17_2, i17_3, i17_4, i17_5, i17_6, i17_7, i17_8, i17, zS, State.step, State.pure, State.pure.capsOf, arrGo, State.ghosts, State.ghost, State.srcRows, State.arrRows, State.pure.fillC, State.bound, State.rd, takeC, args0, State.res, State.res1, State.resS, State.resL, normS, AC.pure, splice, ↓reduceIte, Nat.reduceEqDiff, Nat.reduceLT, Nat.reduceLeDiff, Nat.reduceAdd, Nat.reduceSub, Nat.reduceMul, Int.reduceLE, Int.reduceLT, Int.reduceToNat, Int.reduceEq, Int.reduceNe, Int.reduceAdd, Int.reduceMul, Int.reducePow, Int.reduceNeg, Nat.reduceBEq, Int.reduceBNe, Int.reduceBEq, reduceCtorEq, ne_eq, IntWalk.iteOmega]
      refine gCond_d (fun c3 c3' => ?_) (fun c3 c3' => ?_)
      · have e : doM c o = refGet c o.k.object o.k.chunk o.n := by rw [doM, if_neg c1, if_neg c2, if_pos c3]
        simp -implicitDefEqProofs (disch := omega) only [i17_0, i17_1, i17_2, i17_3, i17_4, i17_5, i17_6, i17_7, i17_8, i17, zS, State.step, State.pure, State.pure.capsOf, arrGo, State.ghosts, State.ghost, State.srcRows, State.arrRows, State.pure.fillC, State.bound, State.rd, takeC, args0, State.res, State.res1, State.resS, State.resL, normS, AC.pure, splice, ↓reduceIte, Nat.reduceEqDiff, Nat.reduceLT, Nat.reduceLeDiff, Nat.reduceAdd, Nat.reduceSub, Nat.reduceMul, Int.reduceLE, Int.reduceLT, Int.reduceToNat, Int.reduceEq, Int.reduceNe, Int.reduceAdd, Int.reduceMul, Int.reducePow, Int.reduceNeg, Nat.reduceBEq, Int.reduceBNe, Int.reduceBEq, reduceCtorEq, ne_eq, IntWalk.iteOmega]
        refine call_pure h23 rfl rfl ?_
        simp -implicitDefEqProofs (disch := omega) only [i17_0, i17_1, i17_2, i17_3, i17_4, i17_5, i17_6, i17_7, i17_8, i17, Made.enc, zS, State.step, State.pure, State.pure.capsOf, arrGo, State.ghosts, State.ghost, State.srcRows, State.arrRows, State.pure.fillC, State.bound, State.rd, takeC, args0, State.res, State.res1, State.resS, State.resL, normS, AC.pure, splice, ↓reduceIte, Nat.reduceEqDiff, Nat.reduceLT, Nat.reduceLeDiff, Nat.reduceAdd, Nat.reduceSub, Nat.reduceMul, Int.reduceLE, Int.reduceLT, Int.reduceToNat, Int.reduceEq, Int.reduceNe, Int.reduceAdd, Int.reduceMul, Int.reducePow, Int.reduceNeg, Nat.reduceBEq, Int.reduceBNe, Int.reduceBEq, reduceCtorEq, ne_eq, IntWalk.iteOmega]
        subst hF
        (refine fin_pureN ?_ not_x_r; simp only [rs17, zS, State.step, State.pure, State.pure.capsOf, arrGo, State.ghosts, State.ghost, State.srcRows, State.arrRows, State.pure.fillC, State.bound, State.rd, takeC, args0, State.res, State.res1, State.resS, State.resL, normS, AC.pure, splice, ↓reduceIte, Nat.reduceEqDiff, Nat.reduceLT, Nat.reduceLeDiff, Nat.reduceAdd, Nat.reduceSub, Nat.reduceMul, Int.reduceLE, Int.reduceLT, Int.reduceToNat, Int.reduceEq, Int.reduceNe, Int.reduceAdd, Int.reduceMul, Int.reducePow, Int.reduceNeg, Nat.reduceBEq, Int.reduceBNe, Int.reduceBEq, reduceCtorEq, ne_eq, IntWalk.iteOmega]; refine ⟨_, rfl, rfl, ?_⟩)
        rw [e]; rfl
      · have e : doM c o = refForget c o.k.object := by rw [doM, if_neg c1, if_neg c2, if_neg c3]
        simp -implicitDefEqProofs (disch := omega) only [i17_0, i17_1, i17_2, i17_3, i17_4, i17_5, i17_6, i17_7, i17_8, i17, zS, State.step, State.pure, State.pure.capsOf, arrGo, State.ghosts, State.ghost, State.srcRows, State.arrRows, State.pure.fillC, State.bound, State.rd, takeC, args0, State.res, State.res1, State.resS, State.resL, normS, AC.pure, splice, ↓reduceIte, Nat.reduceEqDiff, Nat.reduceLT, Nat.reduceLeDiff, Nat.reduceAdd, Nat.reduceSub, Nat.reduceMul, Int.reduceLE, Int.reduceLT, Int.reduceToNat, Int.reduceEq, Int.reduceNe, Int.reduceAdd, Int.reduceMul, Int.reducePow, Int.reduceNeg, Nat.reduceBEq, Int.reduceBNe, Int.reduceBEq, reduceCtorEq, ne_eq, IntWalk.iteOmega]
        refine call_pure h24 rfl rfl ?_
        simp -implicitDefEqProofs (disch := omega) only [i17_0, i17_1, i17_2, i17_3, i17_4, i17_5, i17_6, i17_7, i17_8, i17, Made.enc, zS, State.step, State.pure, State.pure.capsOf, arrGo, State.ghosts, State.ghost, State.srcRows, State.arrRows, State.pure.fillC, State.bound, State.rd, takeC, args0, State.res, State.res1, State.resS, State.resL, normS, AC.pure, splice, ↓reduceIte, Nat.reduceEqDiff, Nat.reduceLT, Nat.reduceLeDiff, Nat.reduceAdd, Nat.reduceSub, Nat.reduceMul, Int.reduceLE, Int.reduceLT, Int.reduceToNat, Int.reduceEq, Int.reduceNe, Int.reduceAdd, Int.reduceMul, Int.reducePow, Int.reduceNeg, Nat.reduceBEq, Int.reduceBNe, Int.reduceBEq, reduceCtorEq, ne_eq, IntWalk.iteOmega]
        subst hF
        (refine fin_pureN ?_ not_x_r; simp only [rs17, zS, State.step, State.pure, State.pure.capsOf, arrGo, State.ghosts, State.ghost, State.srcRows, State.arrRows, State.pure.fillC, State.bound, State.rd, takeC, args0, State.res, State.res1, State.resS, State.resL, normS, AC.pure, splice, ↓reduceIte, Nat.reduceEqDiff, Nat.reduceLT, Nat.reduceLeDiff, Nat.reduceAdd, Nat.reduceSub, Nat.reduceMul, Int.reduceLE, Int.reduceLT, Int.reduceToNat, Int.reduceEq, Int.reduceNe, Int.reduceAdd, Int.reduceMul, Int.reducePow, Int.reduceNeg, Nat.reduceBEq, Int.reduceBNe, Int.reduceBEq, reduceCtorEq, ne_eq, IntWalk.iteOmega]; refine ⟨_, rfl, rfl, ?_⟩)
        rw [e]; rfl
end Go.Proofs.Ytimapebigcmbmaa

set_option linter.unusedVariables false
set_option linter.unusedSimpArgs false
namespace Go.Proofs.Ytimapebigcmbmaa
open Go Go.AI Go.Proofs

/-! ### The examples of the documentation -/
instance (n : Int) : Decidable (I64 n) := by unfold I64; infer_instance
def Kept.okB (k : Kept) : Bool := decide (I64 k.object) && decide (I64 k.chunk) && decide (I64 k.version) && decide (k.bytes.size ≤ 1000000000000000) && decide (I64 k.since) && decide (I64 k.last) && decide (I64 k.used)
theorem Kept.ok_of {k : Kept} (h : k.okB = true) : k.Ok := by
  simp only [Kept.okB, Bool.and_eq_true, decide_eq_true_eq] at h
  obtain ⟨⟨⟨⟨⟨⟨h1, h2⟩, h3⟩, h4⟩, h5⟩, h6⟩, h7⟩ := h
  exact ⟨h1, h2, h3, h4, h5, h6, h7⟩
def Cache.okB (c : Cache) : Bool := decide (I64 c.room) && decide (I64 c.now) && c.items.all Kept.okB && decide (c.items.length ≤ 1000000) && decide (tot c.items ≤ 1000000000000000)
theorem Cache.ok_of {c : Cache} (h : c.okB = true) : c.Ok := by
  simp only [Cache.okB, Bool.and_eq_true, decide_eq_true_eq, List.all_eq_true] at h
  obtain ⟨⟨⟨⟨h1, h2⟩, h3⟩, h4⟩, h5⟩ := h
  exact ⟨h1, h2, fun k hk => Kept.ok_of (h3 k hk), h4, h5⟩
def s1 : Kept := ⟨1, 0, 1, ⟨⟨[97, 98, 99, 100]⟩⟩, 0, 9, 0⟩
def s2 : Kept := ⟨1, 1, 1, ⟨⟨[101, 102, 103, 104]⟩⟩, 0, 5, 0⟩
def s1' : Kept := ⟨1, 0, 1, ⟨⟨[97, 98, 99, 100]⟩⟩, 0, 9, 2⟩
def s3 : Kept := ⟨2, 0, 1, ⟨⟨[105, 106, 107, 108]⟩⟩, 2, 9, 0⟩
def s3' : Kept := ⟨2, 0, 1, ⟨⟨[105, 106, 107, 108]⟩⟩, 2, 9, 2⟩
def sOld : Kept := ⟨1, 0, 0, ⟨⟨[120]⟩⟩, 2, 9, 0⟩
def sLong : Kept := ⟨1, 0, 2, ⟨⟨[97, 98, 99, 100, 101, 102, 103, 104, 105, 106, 107]⟩⟩, 2, 9, 0⟩
def sDead : Kept := ⟨1, 0, 2, ⟨⟨[120]⟩⟩, 1, 1, 0⟩
def cA : Cache := ⟨10, 0, []⟩
def cB : Cache := ⟨10, 0, [s1]⟩
def cC : Cache := ⟨10, 0, [s1, s2]⟩
def cD : Cache := ⟨10, 2, [s1, s2]⟩
def cE : Cache := ⟨10, 2, [s1', s2]⟩
def cF : Cache := ⟨10, 2, [s1', s3']⟩
def cG : Cache := ⟨10, 2, [s3']⟩
def cH : Cache := ⟨10, 10, []⟩
theorem e1 : put cA s1 = (cB, [], 0) := by kernel_rfl
theorem e2 : put cB s2 = (cC, [], 0) := by kernel_rfl
theorem e3 : tick cC 2 = (cD, 0) := by kernel_rfl
theorem e4 : get cD 1 0 3 = (s1.bytes, cE, 0) := by kernel_rfl
theorem e5 : put cE s3 = (cF, [s2], 0) := by kernel_rfl
theorem e6 : check cF = 0 := by kernel_rfl
theorem e7 : put cF sOld = (cF, [], 15) := by kernel_rfl
theorem e8 : put cF sLong = (cF, [], 13) := by kernel_rfl
theorem e9 : put cF sDead = (cF, [], 18) := by kernel_rfl
theorem e10 : get cF 1 0 1 = (⟨#[]⟩, cF, 15) := by kernel_rfl
theorem e11 : get cF 1 1 9 = (⟨#[]⟩, cF, 8) := by kernel_rfl
theorem e12 : forget cF 1 = (cG, 1, 0) := by kernel_rfl
theorem e13 : tick cF 10 = (cH, 0) := by kernel_rfl
theorem e14 : tick cH 9 = (cH, 15) := by kernel_rfl
theorem okc {c : Cache} (h : c.okB = true) : c.Ok := Cache.ok_of h
end Go.Proofs.Ytimapebigcmbmaa

set_option linter.unusedVariables false
set_option linter.unusedSimpArgs false
namespace Go.Proofs.Ytimapebigcmbmaa
open Go Go.AI Go.Proofs

theorem rowsK_nil : rowsK [] = [] := rfl
theorem rowsK_one (k : Kept) : rowsK [k] = [k.enc] := rfl
theorem sB : cB.enc = [.int .i64 10, .int .i64 0, .list 0 7 (rowsK cB.items)] := rfl
theorem sC : cC.enc = [.int .i64 10, .int .i64 0, .list 0 7 (rowsK cC.items)] := rfl
theorem sD : cD.enc = [.int .i64 10, .int .i64 2, .list 0 7 (rowsK cD.items)] := rfl
theorem sE : cE.enc = [.int .i64 10, .int .i64 2, .list 0 7 (rowsK cE.items)] := rfl
theorem sF : cF.enc = [.int .i64 10, .int .i64 2, .list 0 7 (rowsK cF.items)] := rfl
theorem sG : cG.enc = [.int .i64 10, .int .i64 2, .list 0 7 (rowsK cG.items)] := rfl
theorem sH : cH.enc = [.int .i64 10, .int .i64 10, .list 0 7 (rowsK cH.items)] := rfl
theorem nF : cF.items.length = 2 := rfl
theorem nG : cG.items.length = 1 := rfl
theorem nH : cH.items.length = 0 := rfl
theorem bs1 : s1.bytes = ⟨⟨[97, 98, 99, 100]⟩⟩ := rfl
theorem n10 : (if (10 : Int) < 0 ∨ (1048576 : Int) < 10 then (⟨0, 0, []⟩ : Cache) else ⟨10, 0, []⟩) = cA := by kernel_rfl
theorem n10e : (if (10 : Int) < 0 ∨ (1048576 : Int) < 10 then (3 : Int) else 0) = 0 := by kernel_rfl
theorem sA : cA.enc = [.int .i64 10, .int .i64 0, .list 0 7 (rowsK cA.items)] := rfl
theorem xk (k : Kept) : k.enc = [.int .i64 k.object, .int .i64 k.chunk, .int .i64 k.version, .str k.bytes, .int .i64 k.since, .int .i64 k.last, .int .i64 k.used] := rfl
theorem ki : I64 0 ∧ I64 1 ∧ I64 2 ∧ I64 3 ∧ I64 9 ∧ I64 10 := by decide
theorem p1 : type_of% (T20 cA s1 (okc (by decide +kernel)) (by decide) (Kept.ok_of (by decide +kernel))) := T20 cA s1 (okc (by decide +kernel)) (by decide) (Kept.ok_of (by decide +kernel))
theorem p2 : type_of% (T20 cB s2 (okc (by decide +kernel)) (by decide) (Kept.ok_of (by decide +kernel))) := T20 cB s2 (okc (by decide +kernel)) (by decide) (Kept.ok_of (by decide +kernel))
theorem p3 : type_of% (T22 cC 2 (okc (by decide +kernel))) := T22 cC 2 (okc (by decide +kernel))
theorem p4 : type_of% (T23 cD 1 0 3 (okc (by decide +kernel)) (by decide) (by decide)) := T23 cD 1 0 3 (okc (by decide +kernel)) (by decide) (by decide)
theorem p5 : type_of% (T20 cE s3 (okc (by decide +kernel)) (by decide) (Kept.ok_of (by decide +kernel))) := T20 cE s3 (okc (by decide +kernel)) (by decide) (Kept.ok_of (by decide +kernel))
theorem p6 : type_of% (T12 cF (okc (by decide +kernel))) := T12 cF (okc (by decide +kernel))
theorem p7 : type_of% (T20 cF sOld (okc (by decide +kernel)) (by decide) (Kept.ok_of (by decide +kernel))) := T20 cF sOld (okc (by decide +kernel)) (by decide) (Kept.ok_of (by decide +kernel))
theorem p8 : type_of% (T20 cF sLong (okc (by decide +kernel)) (by decide) (Kept.ok_of (by decide +kernel))) := T20 cF sLong (okc (by decide +kernel)) (by decide) (Kept.ok_of (by decide +kernel))
theorem p9 : type_of% (T20 cF sDead (okc (by decide +kernel)) (by decide) (Kept.ok_of (by decide +kernel))) := T20 cF sDead (okc (by decide +kernel)) (by decide) (Kept.ok_of (by decide +kernel))
theorem p10 : type_of% (T23 cF 1 0 1 (okc (by decide +kernel)) (by decide) (by decide)) := T23 cF 1 0 1 (okc (by decide +kernel)) (by decide) (by decide)
theorem p11 : type_of% (T23 cF 1 1 9 (okc (by decide +kernel)) (by decide) (by decide)) := T23 cF 1 1 9 (okc (by decide +kernel)) (by decide) (by decide)
theorem p12 : type_of% (T24 cF 1 (okc (by decide +kernel))) := T24 cF 1 (okc (by decide +kernel))
theorem p13 : type_of% (T22 cF 10 (okc (by decide +kernel))) := T22 cF 10 (okc (by decide +kernel))
theorem p14 : type_of% (T22 cH 9 (okc (by decide +kernel))) := T22 cH 9 (okc (by decide +kernel))
theorem xs2 : s2.enc = [.int .i64 1, .int .i64 1, .int .i64 1, .str ⟨⟨[101, 102, 103, 104]⟩⟩, .int .i64 0, .int .i64 5, .int .i64 0] := rfl
theorem nc0 : ((0 : Nat) : Int) = 0 := rfl
theorem nc1 : ((1 : Nat) : Int) = 1 := rfl
theorem nc2 : ((2 : Nat) : Int) = 2 := rfl
theorem p0 : RunsTo Try.prog 10 [.c (.int .i64 10)] [] (.tup [.agg cA.enc, .c (.int .i64 0)]) [] := by
  have h := T10 10 (by decide)
  rw [n10, n10e] at h
  exact h
set_option maxRecDepth 100000 in
set_option maxHeartbeats 4000000 in
theorem T9 : RunsTo Try.prog 9 [] [] (.c (.bool true)) [] := by
  refine R9 (by simp) ?_
  generalize hF : FinQ rs9 [] _ = F
  simp -implicitDefEqProofs (disch := omega) only [i9_0, i9_1, i9_2, i9_3, i9_4, i9_5, i9_6, i9_7, i9_8, i9_9, i9_10, i9_11, i9_12, i9_13, i9_14, i9_15, i9_16, i9_17, i9_18, i9_19, i9_20, i9_21, i9_22, i9_23, i9, zS, State.step, State.pure, State.pure.capsOf, arrGo, State.ghosts, State.ghost, State.srcRows, State.arrRows, State.pure.fillC, State.bound, State.rd, takeC, args0, State.res, State.res1, State.resS, State.resL, normS, AC.pure, splice, ↓reduceIte, Nat.reduceEqDiff, Nat.reduceLT, Nat.reduceLeDiff, Nat.reduceAdd, Nat.reduceSub, Nat.reduceMul, Int.reduceLE, Int.reduceLT, Int.reduceToNat, Int.reduceEq, Int.reduceNe, Int.reduceAdd, Int.reduceMul, Int.reducePow, Int.reduceNeg, Nat.reduceBEq, Int.reduceBNe, Int.reduceBEq, reduceCtorEq, ne_eq, IntWalk.iteOmega]
  refine call_pure p0 rfl rfl ?_
  simp -implicitDefEqProofs (disch := omega) only [sA, rowsK_nil, zS, State.step, State.pure, State.pure.capsOf, arrGo, State.ghosts, State.ghost, State.srcRows, State.arrRows, State.pure.fillC, State.bound, State.rd, takeC, args0, State.res, State.res1, State.resS, State.resL, normS, AC.pure, splice, ↓reduceIte, Nat.reduceEqDiff, Nat.reduceLT, Nat.reduceLeDiff, Nat.reduceAdd, Nat.reduceSub, Nat.reduceMul, Int.reduceLE, Int.reduceLT, Int.reduceToNat, Int.reduceEq, Int.reduceNe, Int.reduceAdd, Int.reduceMul, Int.reducePow, Int.reduceNeg, Nat.reduceBEq, Int.reduceBNe, Int.reduceBEq, reduceCtorEq, ne_eq, IntWalk.iteOmega]
  refine call_pure (T21 1 0 _ 0 9) rfl rfl ?_
  simp -implicitDefEqProofs (disch := omega) only [xk, zS, State.step, State.pure, State.pure.capsOf, arrGo, State.ghosts, State.ghost, State.srcRows, State.arrRows, State.pure.fillC, State.bound, State.rd, takeC, args0, State.res, State.res1, State.resS, State.resL, normS, AC.pure, splice, ↓reduceIte, Nat.reduceEqDiff, Nat.reduceLT, Nat.reduceLeDiff, Nat.reduceAdd, Nat.reduceSub, Nat.reduceMul, Int.reduceLE, Int.reduceLT, Int.reduceToNat, Int.reduceEq, Int.reduceNe, Int.reduceAdd, Int.reduceMul, Int.reducePow, Int.reduceNeg, Nat.reduceBEq, Int.reduceBNe, Int.reduceBEq, reduceCtorEq, ne_eq, IntWalk.iteOmega]
  refine call_pure p1 rfl rfl ?_
  simp -implicitDefEqProofs (disch := omega) only [i9_0, i9_1, i9_2, i9_3, i9_4, i9_5, i9_6, i9_7, i9_8, i9_9, i9_10, i9_11, i9_12, i9_13, i9_14, i9_15, i9_16, i9_17, i9_18, i9_19, i9_20, i9_21, i9_22, i9_23, i9, e1, sB, rowsK_nil, zS, State.step, State.pure, State.pure.capsOf, arrGo, State.ghosts, State.ghost, State.srcRows, State.arrRows, State.pure.fillC, State.bound, State.rd, takeC, args0, State.res, State.res1, State.resS, State.resL, normS, AC.pure, splice, ↓reduceIte, Nat.reduceEqDiff, Nat.reduceLT, Nat.reduceLeDiff, Nat.reduceAdd, Nat.reduceSub, Nat.reduceMul, Int.reduceLE, Int.reduceLT, Int.reduceToNat, Int.reduceEq, Int.reduceNe, Int.reduceAdd, Int.reduceMul, Int.reducePow, Int.reduceNeg, Nat.reduceBEq, Int.reduceBNe, Int.reduceBEq, reduceCtorEq, ne_eq, IntWalk.iteOmega]
  refine call_pure (T21 1 1 _ 0 5) rfl rfl ?_
  simp -implicitDefEqProofs (disch := omega) only [xk, zS, State.step, State.pure, State.pure.capsOf, arrGo, State.ghosts, State.ghost, State.srcRows, State.arrRows, State.pure.fillC, State.bound, State.rd, takeC, args0, State.res, State.res1, State.resS, State.resL, normS, AC.pure, splice, ↓reduceIte, Nat.reduceEqDiff, Nat.reduceLT, Nat.reduceLeDiff, Nat.reduceAdd, Nat.reduceSub, Nat.reduceMul, Int.reduceLE, Int.reduceLT, Int.reduceToNat, Int.reduceEq, Int.reduceNe, Int.reduceAdd, Int.reduceMul, Int.reducePow, Int.reduceNeg, Nat.reduceBEq, Int.reduceBNe, Int.reduceBEq, reduceCtorEq, ne_eq, IntWalk.iteOmega]
  refine call_pure p2 rfl rfl ?_
  simp -implicitDefEqProofs (disch := omega) only [i9_0, i9_1, i9_2, i9_3, i9_4, i9_5, i9_6, i9_7, i9_8, i9_9, i9_10, i9_11, i9_12, i9_13, i9_14, i9_15, i9_16, i9_17, i9_18, i9_19, i9_20, i9_21, i9_22, i9_23, i9, e2, sC, rowsK_nil, zS, State.step, State.pure, State.pure.capsOf, arrGo, State.ghosts, State.ghost, State.srcRows, State.arrRows, State.pure.fillC, State.bound, State.rd, takeC, args0, State.res, State.res1, State.resS, State.resL, normS, AC.pure, splice, ↓reduceIte, Nat.reduceEqDiff, Nat.reduceLT, Nat.reduceLeDiff, Nat.reduceAdd, Nat.reduceSub, Nat.reduceMul, Int.reduceLE, Int.reduceLT, Int.reduceToNat, Int.reduceEq, Int.reduceNe, Int.reduceAdd, Int.reduceMul, Int.reducePow, Int.reduceNeg, Nat.reduceBEq, Int.reduceBNe, Int.reduceBEq, reduceCtorEq, ne_eq, IntWalk.iteOmega]
  refine call_pure p3 rfl rfl ?_
  simp -implicitDefEqProofs (disch := omega) only [i9_0, i9_1, i9_2, i9_3, i9_4, i9_5, i9_6, i9_7, i9_8, i9_9, i9_10, i9_11, i9_12, i9_13, i9_14, i9_15, i9_16, i9_17, i9_18, i9_19, i9_20, i9_21, i9_22, i9_23, i9, e3, sD, zS, State.step, State.pure, State.pure.capsOf, arrGo, State.ghosts, State.ghost, State.srcRows, State.arrRows, State.pure.fillC, State.bound, State.rd, takeC, args0, State.res, State.res1, State.resS, State.resL, normS, AC.pure, splice, ↓reduceIte, Nat.reduceEqDiff, Nat.reduceLT, Nat.reduceLeDiff, Nat.reduceAdd, Nat.reduceSub, Nat.reduceMul, Int.reduceLE, Int.reduceLT, Int.reduceToNat, Int.reduceEq, Int.reduceNe, Int.reduceAdd, Int.reduceMul, Int.reducePow, Int.reduceNeg, Nat.reduceBEq, Int.reduceBNe, Int.reduceBEq, reduceCtorEq, ne_eq, IntWalk.iteOmega]
  refine call_pure p4 rfl rfl ?_
  simp -implicitDefEqProofs (disch := omega) only [i9_0, i9_1, i9_2, i9_3, i9_4, i9_5, i9_6, i9_7, i9_8, i9_9, i9_10, i9_11, i9_12, i9_13, i9_14, i9_15, i9_16, i9_17, i9_18, i9_19, i9_20, i9_21, i9_22, i9_23, i9, e4, sE, bs1, zS, State.step, State.pure, State.pure.capsOf, arrGo, State.ghosts, State.ghost, State.srcRows, State.arrRows, State.pure.fillC, State.bound, State.rd, takeC, args0, State.res, State.res1, State.resS, State.resL, normS, AC.pure, splice, ↓reduceIte, Nat.reduceEqDiff, Nat.reduceLT, Nat.reduceLeDiff, Nat.reduceAdd, Nat.reduceSub, Nat.reduceMul, Int.reduceLE, Int.reduceLT, Int.reduceToNat, Int.reduceEq, Int.reduceNe, Int.reduceAdd, Int.reduceMul, Int.reducePow, Int.reduceNeg, Nat.reduceBEq, Int.reduceBNe, Int.reduceBEq, reduceCtorEq, ne_eq, IntWalk.iteOmega]
  refine call_pure (T21 2 0 _ 2 9) rfl rfl ?_
  simp -implicitDefEqProofs (disch := omega) only [xk, zS, State.step, State.pure, State.pure.capsOf, arrGo, State.ghosts, State.ghost, State.srcRows, State.arrRows, State.pure.fillC, State.bound, State.rd, takeC, args0, State.res, State.res1, State.resS, State.resL, normS, AC.pure, splice, ↓reduceIte, Nat.reduceEqDiff, Nat.reduceLT, Nat.reduceLeDiff, Nat.reduceAdd, Nat.reduceSub, Nat.reduceMul, Int.reduceLE, Int.reduceLT, Int.reduceToNat, Int.reduceEq, Int.reduceNe, Int.reduceAdd, Int.reduceMul, Int.reducePow, Int.reduceNeg, Nat.reduceBEq, Int.reduceBNe, Int.reduceBEq, reduceCtorEq, ne_eq, IntWalk.iteOmega]
  refine call_pure p5 rfl rfl ?_
  simp -implicitDefEqProofs (disch := omega) only [i9_0, i9_1, i9_2, i9_3, i9_4, i9_5, i9_6, i9_7, i9_8, i9_9, i9_10, i9_11, i9_12, i9_13, i9_14, i9_15, i9_16, i9_17, i9_18, i9_19, i9_20, i9_21, i9_22, i9_23, i9, e5, sF, rowsK_one, rowsK_len, nF, xs2, nc0, nc1, nc2, zS, State.step, State.pure, State.pure.capsOf, arrGo, State.ghosts, State.ghost, State.srcRows, State.arrRows, State.pure.fillC, State.bound, State.rd, takeC, args0, State.res, State.res1, State.resS, State.resL, normS, AC.pure, splice, ↓reduceIte, Nat.reduceEqDiff, Nat.reduceLT, Nat.reduceLeDiff, Nat.reduceAdd, Nat.reduceSub, Nat.reduceMul, Int.reduceLE, Int.reduceLT, Int.reduceToNat, Int.reduceEq, Int.reduceNe, Int.reduceAdd, Int.reduceMul, Int.reducePow, Int.reduceNeg, Nat.reduceBEq, Int.reduceBNe, Int.reduceBEq, reduceCtorEq, ne_eq, IntWalk.iteOmega]
  refine call_pure p6 rfl rfl ?_
  simp -implicitDefEqProofs (disch := omega) only [i9_0, i9_1, i9_2, i9_3, i9_4, i9_5, i9_6, i9_7, i9_8, i9_9, i9_10, i9_11, i9_12, i9_13, i9_14, i9_15, i9_16, i9_17, i9_18, i9_19, i9_20, i9_21, i9_22, i9_23, i9, e6, zS, State.step, State.pure, State.pure.capsOf, arrGo, State.ghosts, State.ghost, State.srcRows, State.arrRows, State.pure.fillC, State.bound, State.rd, takeC, args0, State.res, State.res1, State.resS, State.resL, normS, AC.pure, splice, ↓reduceIte, Nat.reduceEqDiff, Nat.reduceLT, Nat.reduceLeDiff, Nat.reduceAdd, Nat.reduceSub, Nat.reduceMul, Int.reduceLE, Int.reduceLT, Int.reduceToNat, Int.reduceEq, Int.reduceNe, Int.reduceAdd, Int.reduceMul, Int.reducePow, Int.reduceNeg, Nat.reduceBEq, Int.reduceBNe, Int.reduceBEq, reduceCtorEq, ne_eq, IntWalk.iteOmega]
  refine call_pure (T21 1 0 _ 2 9) rfl rfl ?_
  simp -implicitDefEqProofs (disch := omega) only [i9_0, i9_1, i9_2, i9_3, i9_4, i9_5, i9_6, i9_7, i9_8, i9_9, i9_10, i9_11, i9_12, i9_13, i9_14, i9_15, i9_16, i9_17, i9_18, i9_19, i9_20, i9_21, i9_22, i9_23, i9, xk, zS, State.step, State.pure, State.pure.capsOf, arrGo, State.ghosts, State.ghost, State.srcRows, State.arrRows, State.pure.fillC, State.bound, State.rd, takeC, args0, State.res, State.res1, State.resS, State.resL, normS, AC.pure, splice, ↓reduceIte, Nat.reduceEqDiff, Nat.reduceLT, Nat.reduceLeDiff, Nat.reduceAdd, Nat.reduceSub, Nat.reduceMul, Int.reduceLE, Int.reduceLT, Int.reduceToNat, Int.reduceEq, Int.reduceNe, Int.reduceAdd, Int.reduceMul, Int.reducePow, Int.reduceNeg, Nat.reduceBEq, Int.reduceBNe, Int.reduceBEq, reduceCtorEq, ne_eq, IntWalk.iteOmega]
  refine call_pure (T21 1 0 _ 2 9) rfl rfl ?_
  simp -implicitDefEqProofs (disch := omega) only [i9_0, i9_1, i9_2, i9_3, i9_4, i9_5, i9_6, i9_7, i9_8, i9_9, i9_10, i9_11, i9_12, i9_13, i9_14, i9_15, i9_16, i9_17, i9_18, i9_19, i9_20, i9_21, i9_22, i9_23, i9, xk, zS, State.step, State.pure, State.pure.capsOf, arrGo, State.ghosts, State.ghost, State.srcRows, State.arrRows, State.pure.fillC, State.bound, State.rd, takeC, args0, State.res, State.res1, State.resS, State.resL, normS, AC.pure, splice, ↓reduceIte, Nat.reduceEqDiff, Nat.reduceLT, Nat.reduceLeDiff, Nat.reduceAdd, Nat.reduceSub, Nat.reduceMul, Int.reduceLE, Int.reduceLT, Int.reduceToNat, Int.reduceEq, Int.reduceNe, Int.reduceAdd, Int.reduceMul, Int.reducePow, Int.reduceNeg, Nat.reduceBEq, Int.reduceBNe, Int.reduceBEq, reduceCtorEq, ne_eq, IntWalk.iteOmega]
  refine call_pure (T21 1 0 _ 1 1) rfl rfl ?_
  simp -implicitDefEqProofs (disch := omega) only [i9_0, i9_1, i9_2, i9_3, i9_4, i9_5, i9_6, i9_7, i9_8, i9_9, i9_10, i9_11, i9_12, i9_13, i9_14, i9_15, i9_16, i9_17, i9_18, i9_19, i9_20, i9_21, i9_22, i9_23, i9, xk, zS, State.step, State.pure, State.pure.capsOf, arrGo, State.ghosts, State.ghost, State.srcRows, State.arrRows, State.pure.fillC, State.bound, State.rd, takeC, args0, State.res, State.res1, State.resS, State.resL, normS, AC.pure, splice, ↓reduceIte, Nat.reduceEqDiff, Nat.reduceLT, Nat.reduceLeDiff, Nat.reduceAdd, Nat.reduceSub, Nat.reduceMul, Int.reduceLE, Int.reduceLT, Int.reduceToNat, Int.reduceEq, Int.reduceNe, Int.reduceAdd, Int.reduceMul, Int.reducePow, Int.reduceNeg, Nat.reduceBEq, Int.reduceBNe, Int.reduceBEq, reduceCtorEq, ne_eq, IntWalk.iteOmega]
  refine call_pure p7 rfl rfl ?_
  simp -implicitDefEqProofs (disch := omega) only [i9_0, i9_1, i9_2, i9_3, i9_4, i9_5, i9_6, i9_7, i9_8, i9_9, i9_10, i9_11, i9_12, i9_13, i9_14, i9_15, i9_16, i9_17, i9_18, i9_19, i9_20, i9_21, i9_22, i9_23, i9, e7, sF, zS, State.step, State.pure, State.pure.capsOf, arrGo, State.ghosts, State.ghost, State.srcRows, State.arrRows, State.pure.fillC, State.bound, State.rd, takeC, args0, State.res, State.res1, State.resS, State.resL, normS, AC.pure, splice, ↓reduceIte, Nat.reduceEqDiff, Nat.reduceLT, Nat.reduceLeDiff, Nat.reduceAdd, Nat.reduceSub, Nat.reduceMul, Int.reduceLE, Int.reduceLT, Int.reduceToNat, Int.reduceEq, Int.reduceNe, Int.reduceAdd, Int.reduceMul, Int.reducePow, Int.reduceNeg, Nat.reduceBEq, Int.reduceBNe, Int.reduceBEq, reduceCtorEq, ne_eq, IntWalk.iteOmega]
  refine call_pure p8 rfl rfl ?_
  simp -implicitDefEqProofs (disch := omega) only [i9_0, i9_1, i9_2, i9_3, i9_4, i9_5, i9_6, i9_7, i9_8, i9_9, i9_10, i9_11, i9_12, i9_13, i9_14, i9_15, i9_16, i9_17, i9_18, i9_19, i9_20, i9_21, i9_22, i9_23, i9, e8, sF, zS, State.step, State.pure, State.pure.capsOf, arrGo, State.ghosts, State.ghost, State.srcRows, State.arrRows, State.pure.fillC, State.bound, State.rd, takeC, args0, State.res, State.res1, State.resS, State.resL, normS, AC.pure, splice, ↓reduceIte, Nat.reduceEqDiff, Nat.reduceLT, Nat.reduceLeDiff, Nat.reduceAdd, Nat.reduceSub, Nat.reduceMul, Int.reduceLE, Int.reduceLT, Int.reduceToNat, Int.reduceEq, Int.reduceNe, Int.reduceAdd, Int.reduceMul, Int.reducePow, Int.reduceNeg, Nat.reduceBEq, Int.reduceBNe, Int.reduceBEq, reduceCtorEq, ne_eq, IntWalk.iteOmega]
  refine call_pure p9 rfl rfl ?_
  simp -implicitDefEqProofs (disch := omega) only [i9_0, i9_1, i9_2, i9_3, i9_4, i9_5, i9_6, i9_7, i9_8, i9_9, i9_10, i9_11, i9_12, i9_13, i9_14, i9_15, i9_16, i9_17, i9_18, i9_19, i9_20, i9_21, i9_22, i9_23, i9, e9, sF, zS, State.step, State.pure, State.pure.capsOf, arrGo, State.ghosts, State.ghost, State.srcRows, State.arrRows, State.pure.fillC, State.bound, State.rd, takeC, args0, State.res, State.res1, State.resS, State.resL, normS, AC.pure, splice, ↓reduceIte, Nat.reduceEqDiff, Nat.reduceLT, Nat.reduceLeDiff, Nat.reduceAdd, Nat.reduceSub, Nat.reduceMul, Int.reduceLE, Int.reduceLT, Int.reduceToNat, Int.reduceEq, Int.reduceNe, Int.reduceAdd, Int.reduceMul, Int.reducePow, Int.reduceNeg, Nat.reduceBEq, Int.reduceBNe, Int.reduceBEq, reduceCtorEq, ne_eq, IntWalk.iteOmega]
  refine call_pure p10 rfl rfl ?_
  simp -implicitDefEqProofs (disch := omega) only [i9_0, i9_1, i9_2, i9_3, i9_4, i9_5, i9_6, i9_7, i9_8, i9_9, i9_10, i9_11, i9_12, i9_13, i9_14, i9_15, i9_16, i9_17, i9_18, i9_19, i9_20, i9_21, i9_22, i9_23, i9, e10, sF, zS, State.step, State.pure, State.pure.capsOf, arrGo, State.ghosts, State.ghost, State.srcRows, State.arrRows, State.pure.fillC, State.bound, State.rd, takeC, args0, State.res, State.res1, State.resS, State.resL, normS, AC.pure, splice, ↓reduceIte, Nat.reduceEqDiff, Nat.reduceLT, Nat.reduceLeDiff, Nat.reduceAdd, Nat.reduceSub, Nat.reduceMul, Int.reduceLE, Int.reduceLT, Int.reduceToNat, Int.reduceEq, Int.reduceNe, Int.reduceAdd, Int.reduceMul, Int.reducePow, Int.reduceNeg, Nat.reduceBEq, Int.reduceBNe, Int.reduceBEq, reduceCtorEq, ne_eq, IntWalk.iteOmega]
  refine call_pure p11 rfl rfl ?_
  simp -implicitDefEqProofs (disch := omega) only [i9_0, i9_1, i9_2, i9_3, i9_4, i9_5, i9_6, i9_7, i9_8, i9_9, i9_10, i9_11, i9_12, i9_13, i9_14, i9_15, i9_16, i9_17, i9_18, i9_19, i9_20, i9_21, i9_22, i9_23, i9, e11, sF, zS, State.step, State.pure, State.pure.capsOf, arrGo, State.ghosts, State.ghost, State.srcRows, State.arrRows, State.pure.fillC, State.bound, State.rd, takeC, args0, State.res, State.res1, State.resS, State.resL, normS, AC.pure, splice, ↓reduceIte, Nat.reduceEqDiff, Nat.reduceLT, Nat.reduceLeDiff, Nat.reduceAdd, Nat.reduceSub, Nat.reduceMul, Int.reduceLE, Int.reduceLT, Int.reduceToNat, Int.reduceEq, Int.reduceNe, Int.reduceAdd, Int.reduceMul, Int.reducePow, Int.reduceNeg, Nat.reduceBEq, Int.reduceBNe, Int.reduceBEq, reduceCtorEq, ne_eq, IntWalk.iteOmega]
  refine call_pure p12 rfl rfl ?_
  simp -implicitDefEqProofs (disch := omega) only [i9_0, i9_1, i9_2, i9_3, i9_4, i9_5, i9_6, i9_7, i9_8, i9_9, i9_10, i9_11, i9_12, i9_13, i9_14, i9_15, i9_16, i9_17, i9_18, i9_19, i9_20, i9_21, i9_22, i9_23, i9, e12, sG, zS, State.step, State.pure, State.pure.capsOf, arrGo, State.ghosts, State.ghost, State.srcRows, State.arrRows, State.pure.fillC, State.bound, State.rd, takeC, args0, State.res, State.res1, State.resS, State.resL, normS, AC.pure, splice, ↓reduceIte, Nat.reduceEqDiff, Nat.reduceLT, Nat.reduceLeDiff, Nat.reduceAdd, Nat.reduceSub, Nat.reduceMul, Int.reduceLE, Int.reduceLT, Int.reduceToNat, Int.reduceEq, Int.reduceNe, Int.reduceAdd, Int.reduceMul, Int.reducePow, Int.reduceNeg, Nat.reduceBEq, Int.reduceBNe, Int.reduceBEq, reduceCtorEq, ne_eq, IntWalk.iteOmega]
  refine call_pure p13 rfl rfl ?_
  simp -implicitDefEqProofs (disch := omega) only [i9_0, i9_1, i9_2, i9_3, i9_4, i9_5, i9_6, i9_7, i9_8, i9_9, i9_10, i9_11, i9_12, i9_13, i9_14, i9_15, i9_16, i9_17, i9_18, i9_19, i9_20, i9_21, i9_22, i9_23, i9, e13, sH, zS, State.step, State.pure, State.pure.capsOf, arrGo, State.ghosts, State.ghost, State.srcRows, State.arrRows, State.pure.fillC, State.bound, State.rd, takeC, args0, State.res, State.res1, State.resS, State.resL, normS, AC.pure, splice, ↓reduceIte, Nat.reduceEqDiff, Nat.reduceLT, Nat.reduceLeDiff, Nat.reduceAdd, Nat.reduceSub, Nat.reduceMul, Int.reduceLE, Int.reduceLT, Int.reduceToNat, Int.reduceEq, Int.reduceNe, Int.reduceAdd, Int.reduceMul, Int.reducePow, Int.reduceNeg, Nat.reduceBEq, Int.reduceBNe, Int.reduceBEq, reduceCtorEq, ne_eq, IntWalk.iteOmega]
  refine call_pure p14 rfl rfl ?_
  simp -implicitDefEqProofs (disch := omega) only [i9_0, i9_1, i9_2, i9_3, i9_4, i9_5, i9_6, i9_7, i9_8, i9_9, i9_10, i9_11, i9_12, i9_13, i9_14, i9_15, i9_16, i9_17, i9_18, i9_19, i9_20, i9_21, i9_22, i9_23, i9, e14, sG, sH, rowsK_len, nG, nH, nc0, nc1, nc2, zS, State.step, State.pure, State.pure.capsOf, arrGo, State.ghosts, State.ghost, State.srcRows, State.arrRows, State.pure.fillC, State.bound, State.rd, takeC, args0, State.res, State.res1, State.resS, State.resL, normS, AC.pure, splice, ↓reduceIte, Nat.reduceEqDiff, Nat.reduceLT, Nat.reduceLeDiff, Nat.reduceAdd, Nat.reduceSub, Nat.reduceMul, Int.reduceLE, Int.reduceLT, Int.reduceToNat, Int.reduceEq, Int.reduceNe, Int.reduceAdd, Int.reduceMul, Int.reducePow, Int.reduceNeg, Nat.reduceBEq, Int.reduceBNe, Int.reduceBEq, reduceCtorEq, ne_eq, IntWalk.iteOmega]
  subst hF
  (refine fin_pure rfl ?_ not_x_r; simp only [rs9, zS, State.step, State.pure, State.pure.capsOf, arrGo, State.ghosts, State.ghost, State.srcRows, State.arrRows, State.pure.fillC, State.bound, State.rd, takeC, args0, State.res, State.res1, State.resS, State.resL, normS, AC.pure, splice, ↓reduceIte, Nat.reduceEqDiff, Nat.reduceLT, Nat.reduceLeDiff, Nat.reduceAdd, Nat.reduceSub, Nat.reduceMul, Int.reduceLE, Int.reduceLT, Int.reduceToNat, Int.reduceEq, Int.reduceNe, Int.reduceAdd, Int.reduceMul, Int.reducePow, Int.reduceNeg, Nat.reduceBEq, Int.reduceBNe, Int.reduceBEq, reduceCtorEq, ne_eq, IntWalk.iteOmega])
end Go.Proofs.Ytimapebigcmbmaa

set_option linter.unusedVariables false
set_option linter.unusedSimpArgs false
namespace Go.Proofs.Ytimapebigcmbmaa
open Go Go.AI Go.Proofs

/-! ### What the operations keep -/
structure Inv (c : Cache) (n : Nat) : Prop where
  good : Good c
  ok : ∀ k ∈ c.items, k.Ok
  len : c.items.length ≤ n
theorem Inv.toOk {c : Cache} {n : Nat} (h : Inv c n) (hn : n ≤ 1000000) : c.Ok := by
  have h1 := h.good.room; have h2 := h.good.now; have h3 := h.good.fits; have h4 := h.len
  exact ⟨by unfold I64; omega, by unfold I64; omega, h.ok, by omega, by omega⟩
theorem tot_sub {l l' : List Kept} (h : l'.Sublist l) : tot l' ≤ tot l := by
  induction h with
  | slnil => exact Nat.le_refl _
  | cons a h ih => simp only [tot]; omega
  | cons_cons a h ih => simp only [tot]; omega
theorem Inv.mono {c : Cache} {n m : Nat} (h : Inv c n) (hm : n ≤ m) : Inv c m := ⟨h.good, h.ok, Nat.le_trans h.len hm⟩
theorem Inv.filter {c : Cache} {n : Nat} (h : Inv c n) (p : Kept → Bool) (t : Int) (h1 : c.now ≤ t) (h2 : t ≤ 1000000) (hp : ∀ k ∈ c.items, p k = true → t ≤ k.last) : Inv ⟨c.room, t, c.items.filter p⟩ n := by
  have hg := h.good
  refine ⟨⟨hg.room, ⟨by have := hg.now; simp only; omega, h2⟩, hg.sorted.sublist List.filter_sublist, fun k hk => ?_, ?_⟩, fun k hk => h.ok k (List.mem_filter.1 hk).1, Nat.le_trans (List.length_filter_le _ _) h.len⟩
  · obtain ⟨hk, hpk⟩ := List.mem_filter.1 hk
    obtain ⟨r1, r2, r3, r4⟩ := hg.right k hk
    have := hp k hk hpk
    unfold Right at *
    simp only
    refine ⟨by omega, r2, by omega, this⟩
  · have := tot_sub (List.filter_sublist (p := p) (l := c.items))
    have := hg.fits
    simp only; omega
theorem tick_inv {c : Cache} {n : Nat} (h : Inv c n) (t : Int) : Inv (tick c t).1 n := by
  unfold tick
  split
  · exact h
  · split
    · exact h
    · split
      · exact h
      · exact h.filter _ t (by omega) (by omega) fun k _ hk => of_decide_eq_true hk
theorem forget_inv {c : Cache} {n : Nat} (h : Inv c n) (o : Int) : Inv (forget c o).1 n := by
  unfold forget
  split
  · exact h
  · exact h.filter _ c.now (Int.le_refl _) h.good.now.2 fun k hk _ => (h.good.right k hk).2.2.2
theorem sorted_set {l : List Kept} {i : Nat} {x y : Kept} (hs : l.Pairwise Before) (hx : l[i]? = some x) (hk : SameKey x y) : (l.set i y).Pairwise Before := by
  obtain ⟨hil, hy'⟩ := List.getElem?_eq_some_iff.1 hx
  rw [List.pairwise_iff_getElem] at hs ⊢
  intro a b ha hb hab
  rw [List.length_set] at ha hb
  rw [List.getElem_set, List.getElem_set]
  have := hs a b ha hb hab
  split
  · rename_i e; subst e
    rw [if_neg (by omega)]
    rw [hy'] at this; exact hk.before_l.1 this
  · split
    · rename_i e; subst e
      rw [hy'] at this; exact hk.before_r.1 this
    · exact this
theorem mem_set {l : List Kept} {i : Nat} {y z : Kept} (h : z ∈ l.set i y) : z = y ∨ z ∈ l := by
  rcases List.mem_or_eq_of_mem_set h with h | h
  · exact .inr h
  · exact .inl h
theorem get_inv {c : Cache} {n : Nat} (h : Inv c n) (o ch fresh : Int) : Inv (get c o ch fresh).2.1 n := by
  unfold get
  split
  · exact h
  · split
    · exact h
    · rename_i i hi
      split
      · exact h
      · rename_i x hx
        split
        · exact h
        · have hg := h.good
          have hxm := List.mem_of_getElem? hx
          obtain ⟨r1, r2, r3, r4⟩ := hg.right x hxm
          have hxo := h.ok x hxm
          have hnow := hg.now
          refine ⟨⟨hg.room, hg.now, sorted_set hg.sorted hx ⟨rfl, rfl⟩, fun k hk => ?_, ?_⟩, fun k hk => ?_, by simp; exact h.len⟩
          · rcases mem_set hk with rfl | hk
            · unfold Right at *
              simp only
              exact ⟨r1, by omega, Int.le_refl _, r4⟩
            · exact hg.right k hk
          · have := tot_set (k := { x with used := c.now }) hx
            have := hg.fits
            simp only at *; omega
          · rcases mem_set hk with rfl | hk
            · exact ⟨hxo.object, hxo.chunk, hxo.version, hxo.bytes, hxo.since, hxo.last, by unfold I64; simp only; omega⟩
            · exact h.ok k hk
/-! What the last loop of Put does. -/
theorem evict_perm (room : Int) (k : Kept) : ∀ (m : Nat) (l : List Kept), (evict room k m l).1.Sublist l ∧ ∀ x, x ∈ l ↔ x ∈ (evict room k m l).1 ∨ x ∈ (evict room k m l).2 := by
  intro m
  induction m with
  | zero => intro l; exact ⟨List.Sublist.refl _, fun x => by simp [evict]⟩
  | succ m ih =>
    intro l
    unfold evict
    split
    · split
      · rename_i i u ho
        split
        · rename_i x hx
          obtain ⟨h1, h2⟩ := ih (l.eraseIdx i)
          refine ⟨h1.trans (List.eraseIdx_sublist l i), fun y => ?_⟩
          have hmem : y ∈ l ↔ y = x ∨ y ∈ l.eraseIdx i := by
            constructor
            · intro hy
              obtain ⟨j, hj⟩ := List.getElem?_of_mem hy
              by_cases e : j = i
              · subst e; rw [hx] at hj; exact .inl (Option.some.inj hj).symm
              · right
                rw [List.mem_eraseIdx_iff_getElem?]
                exact ⟨j, e, hj⟩
            · rintro (rfl | hy)
              · exact List.mem_of_getElem? hx
              · exact (List.eraseIdx_sublist l i).subset hy
          rw [hmem, h2 y]
          simp only [List.mem_cons]
          constructor
          · rintro (h | h | h)
            · exact .inr (.inl h)
            · exact .inl h
            · exact .inr (.inr h)
          · rintro (h | h | h)
            · exact .inr (.inl h)
            · exact .inl h
            · exact .inr (.inr h)
        · exact ⟨List.Sublist.refl _, fun x => by simp⟩
      · exact ⟨List.Sublist.refl _, fun x => by simp⟩
    · exact ⟨List.Sublist.refl _, fun x => by simp⟩
theorem evict_all {room : Int} {k : Kept} (hr0 : 0 ≤ room) : ∀ (m : Nat) (l : List Kept), l.length ≤ m → l.Pairwise Before → (∀ x ∈ l, SameKey x k → (x.bytes.size : Int) ≤ room) →
    (tot (evict room k m l).1 : Int) ≤ room ∧ (∀ x ∈ (evict room k m l).2, ¬ SameKey x k) ∧ (∀ x ∈ (evict room k m l).2, ∀ y ∈ (evict room k m l).1, ¬ SameKey y k → x.used ≤ y.used) ∧ (evict room k m l).2.length ≤ l.length := by
  intro m
  induction m with
  | zero =>
    intro l hm hs hb
    obtain rfl : l = [] := List.eq_nil_of_length_eq_zero (by omega)
    exact ⟨by simp [evict, tot]; exact hr0, by simp [evict], by simp [evict], by simp [evict]⟩
  | succ m ih =>
    intro l hm hs hb
    by_cases hr : room < tot l
    · obtain ⟨i, x, ho, hx, hnk, hil, hmin⟩ := oldI_some hs hb hr0 hr
      have hsub := List.eraseIdx_sublist l i
      have hlen : (l.eraseIdx i).length + 1 = l.length := by rw [List.length_eraseIdx]; simp [hil]; omega
      obtain ⟨h1, h2, h3, h4⟩ := ih (l.eraseIdx i) (by omega) (hs.sublist hsub) (fun y hy => hb y (hsub.subset hy))
      have hp := (evict_perm room k m (l.eraseIdx i)).1
      rw [evict_step hr ho hx]
      refine ⟨h1, fun y hy => ?_, fun y hy z hz hzk => ?_, by simp only [List.length_cons]; omega⟩
      · rcases List.mem_cons.1 hy with rfl | hy
        · exact hnk
        · exact h2 y hy
      · rcases List.mem_cons.1 hy with rfl | hy
        · exact hmin z (hsub.subset (hp.subset hz)) hzk
        · exact h3 y hy z hz hzk
    · rw [evict_stop hr]
      exact ⟨by simp only; omega, by simp, by simp, by simp⟩
theorem put_inv {c : Cache} {n : Nat} (h : Inv c n) (hn : n ≤ 999999) {k : Kept} (hk : k.Ok) : Inv (put c k).1 (n + 1) ∧ (put c k).2.1.length ≤ n + 1 := by
  have hsame : Inv c (n + 1) ∧ ([] : List Kept).length ≤ n + 1 := ⟨h.mono (by omega), by simp⟩
  unfold put
  split
  · exact hsame
  · split
    · exact hsame
    · rename_i hr
      have hr : Right k c.now := Decidable.not_not.1 hr
      split
      · exact hsame
      · rename_i hl
        split
        · exact hsame
        · split
          · exact hsame
          · rename_i hsz
            have hg := h.good
            have hco := h.toOk (by omega)
            obtain ⟨g1, g2, g3, g4, g5, g6⟩ := put_pre hco hg hk hr hsz
            have hp := evict_perm c.room (now' c k) (putL (now' c k) c.items).length (putL (now' c k) c.items)
            obtain ⟨a1, a2, a3, a4⟩ := evict_all (k := now' c k) hg.room.1 _ (putL (now' c k) c.items) (Nat.le_refl _) g1 g3
            have hlen := putL_len (now' c k) c.items
            have hlen0 := h.len
            have hnow := hg.now
            refine ⟨⟨⟨hg.room, hg.now, g1.sublist hp.1, fun x hx => ?_, a1⟩, fun x hx => g2 x (hp.1.subset hx), ?_⟩, by simp only; omega⟩
            · rcases putL_mem hg.sorted (hp.1.subset hx) with rfl | ⟨hx, _⟩
              · unfold Right at *
                simp only [now']
                exact ⟨hr, by omega, Int.le_refl _, by omega⟩
              · exact hg.right x hx
            · have := hp.1.length_le
              simp only; omega
theorem doM_inv {c : Cache} {n : Nat} (h : Inv c n) (hn : n ≤ 999999) {o : Op} (ho : o.Ok) : Inv (doM c o).c (n + 1) ∧ (doM c o).out.length ≤ n + 1 := by
  unfold doM
  split
  · exact ⟨(tick_inv h o.n).mono (by omega), by simp [refTick]⟩
  · split
    · exact put_inv h hn ho.k
    · split
      · exact ⟨(get_inv h _ _ _).mono (by omega), by simp [refGet]⟩
      · exact ⟨(forget_inv h _).mono (by omega), by simp [refForget]⟩
end Go.Proofs.Ytimapebigcmbmaa

set_option linter.unusedVariables false
set_option linter.unusedSimpArgs false
namespace Go.Proofs.Ytimapebigcmbmaa
open Go Go.AI Go.Proofs

/-! ### Items, caches and operations among the parameters -/
theorem list_of_len {α : Type} : ∀ (n : Nat) (l : List α), l.length = n + 1 → ∃ a r, l = a :: r ∧ r.length = n
  | n, a :: r, h => ⟨a, r, rfl, by simpa using h⟩
theorem list_nil {α : Type} (l : List α) (h : l.length = 0) : l = [] := by cases l <;> simp_all
theorem kept_of {n : Nat} {cs : List AC} (h : Fit Try.prog n 26 cs) : ∃ k : Kept, cs = k.enc ∧ k.Ok := by
  obtain ⟨ps, rfl, hl, hp⟩ := fit_struct Try.underlying26 h
  obtain ⟨p0, r0, rfl, hl1⟩ := list_of_len 6 ps hl
  obtain ⟨p1, r1, rfl, hl2⟩ := list_of_len 5 r0 hl1
  obtain ⟨p2, r2, rfl, hl3⟩ := list_of_len 4 r1 hl2
  obtain ⟨p3, r3, rfl, hl4⟩ := list_of_len 3 r2 hl3
  obtain ⟨p4, r4, rfl, hl5⟩ := list_of_len 2 r3 hl4
  obtain ⟨p5, r5, rfl, hl6⟩ := list_of_len 1 r4 hl5
  obtain ⟨p6, r6, rfl, hl7⟩ := list_of_len 0 r5 hl6
  obtain rfl := list_nil r6 hl7
  obtain ⟨a0, rfl, w0⟩ := fit_int Try.underlying3 (hp 0 _ p0 rfl rfl).1
  obtain ⟨a1, rfl, w1⟩ := fit_int Try.underlying3 (hp 1 _ p1 rfl rfl).1
  obtain ⟨a2, rfl, w2⟩ := fit_int Try.underlying3 (hp 2 _ p2 rfl rfl).1
  obtain ⟨a3, rfl, w3⟩ := fit_str Try.underlying9 (hp 3 _ p3 rfl rfl).1
  obtain ⟨a4, rfl, w4⟩ := fit_int Try.underlying3 (hp 4 _ p4 rfl rfl).1
  obtain ⟨a5, rfl, w5⟩ := fit_int Try.underlying3 (hp 5 _ p5 rfl rfl).1
  obtain ⟨a6, rfl, w6⟩ := fit_int Try.underlying3 (hp 6 _ p6 rfl rfl).1
  have hs : a3.size ≤ 1000000000000000 := Nat.le_trans w3 (by decide)
  exact ⟨⟨a0, a1, a2, a3, a4, a5, a6⟩, rfl, ⟨wf_i64 w0, wf_i64 w1, wf_i64 w2, hs, wf_i64 w4, wf_i64 w5, wf_i64 w6⟩⟩
theorem op_of {n : Nat} {cs : List AC} (h : Fit Try.prog n 28 cs) : ∃ o : Op, cs = o.enc ∧ o.Ok := by
  obtain ⟨ps, rfl, hl, hp⟩ := fit_struct Try.underlying28 h
  obtain ⟨p0, r0, rfl, hl1⟩ := list_of_len 2 ps hl
  obtain ⟨p1, r1, rfl, hl2⟩ := list_of_len 1 r0 hl1
  obtain ⟨p2, r2, rfl, hl3⟩ := list_of_len 0 r1 hl2
  obtain rfl := list_nil r2 hl3
  obtain ⟨a0, rfl, w0⟩ := fit_int Try.underlying5 (hp 0 _ p0 rfl rfl).1
  obtain ⟨a1, rfl, w1⟩ := fit_int Try.underlying3 (hp 1 _ p1 rfl rfl).1
  obtain ⟨k, rfl, hk⟩ := kept_of (hp 2 _ p2 rfl rfl).1
  exact ⟨⟨a0, a1, k⟩, rfl, ⟨wf_u8 w0, wf_i64 w1, hk⟩⟩
theorem cache_of {n : Nat} {cs : List AC} (h : Fit Try.prog n 24 cs) : ∃ c : Cache, cs = c.enc ∧ I64 c.room ∧ I64 c.now ∧ ∀ k ∈ c.items, k.Ok := by
  obtain ⟨ps, rfl, hl, hp⟩ := fit_struct Try.underlying24 h
  obtain ⟨p0, r0, rfl, hl1⟩ := list_of_len 2 ps hl
  obtain ⟨p1, r1, rfl, hl2⟩ := list_of_len 1 r0 hl1
  obtain ⟨p2, r2, rfl, hl3⟩ := list_of_len 0 r1 hl2
  obtain rfl := list_nil r2 hl3
  obtain ⟨a0, rfl, w0⟩ := fit_int Try.underlying3 (hp 0 _ p0 rfl rfl).1
  obtain ⟨a1, rfl, w1⟩ := fit_int Try.underlying3 (hp 1 _ p1 rfl rfl).1
  obtain ⟨xs, rfl, _, hx⟩ := fit_slice Try.underlying22 (hp 2 _ p2 rfl rfl).1
  obtain ⟨l, rfl, hR⟩ := rows_of (rows := Kept.enc) (R := Kept.Ok) (fun x hx => kept_of hx.1) xs hx
  have hc : Try.prog.cellsOf 26 = 7 := by kernel_rfl
  exact ⟨⟨a0, a1, l⟩, by rw [hc]; rfl, wf_i64 w0, wf_i64 w1, hR⟩
theorem fitV_ops {v : AV} (h : FitV Try.prog 42 v) : ∃ l : List Op, v = .c (.list 0 9 (l.map Op.enc)) ∧ ∀ o ∈ l, o.Ok := by
  obtain ⟨xs, rfl, _, hx⟩ := fitV_slice Try.underlying42 h
  obtain ⟨l, rfl, hR⟩ := rows_of (rows := Op.enc) (R := Op.Ok) (fun x hx => op_of hx.1) xs hx
  have hc : Try.prog.cellsOf 28 = 9 := by kernel_rfl
  exact ⟨l, by rw [hc], hR⟩
end Go.Proofs.Ytimapebigcmbmaa
