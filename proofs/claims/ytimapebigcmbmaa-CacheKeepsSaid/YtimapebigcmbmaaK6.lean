/- A part of the proofs: a verified symbolic execution of Go's code, and what each function of the program computes; no conditions of its own. -/
import Derived.Test.YtimapebigcmbmaaK5

set_option linter.unusedVariables false
set_option linter.unusedSimpArgs false
namespace Go.Proofs.Ytimapebigcmbmaa
open Go Go.AI Go.Proofs

def Key (o c : Int) (k : Kept) : Prop := k.object = o ∧ k.chunk = c
instance (o c : Int) (k : Kept) : Decidable (Key o c k) := by unfold Key; infer_instance
/-- The place of a chunk. -/
def idx (o c : Int) : List Kept → Option Nat
  | [] => none
  | k :: l => if Key o c k then some 0 else (idx o c l).map (· + 1)
theorem idx_some {o c : Int} : ∀ {l : List Kept} {i : Nat}, idx o c l = some i → ∃ x, l[i]? = some x ∧ Key o c x := by
  intro l
  induction l with
  | nil => intro i h; cases h
  | cons k l ih =>
    intro i h
    unfold idx at h
    split at h
    · rename_i hk
      obtain rfl := Option.some.inj h
      exact ⟨k, rfl, hk⟩
    · obtain ⟨j, hj, rfl⟩ := Option.map_eq_some_iff.1 h
      obtain ⟨x, hx, hk⟩ := ih hj
      exact ⟨x, by simpa using hx, hk⟩
theorem idx_none {o c : Int} : ∀ {l : List Kept}, idx o c l = none ↔ ∀ k ∈ l, ¬ Key o c k := by
  intro l
  induction l with
  | nil => simp [idx]
  | cons k l ih =>
    unfold idx
    by_cases hk : Key o c k
    · rw [if_pos hk]; simp [hk]
    · rw [if_neg hk]; simp [hk, ih]
theorem idx_app {o c : Int} {pre post : List Kept} (h : ∀ k ∈ pre, ¬ Key o c k) : idx o c (pre ++ post) = (idx o c post).map (· + pre.length) := by
  induction pre with
  | nil => simp
  | cons k pre ih =>
    have e : idx o c (k :: pre ++ post) = (idx o c (pre ++ post)).map (· + 1) := by
      rw [List.cons_append, idx, if_neg (h k (by simp))]
    rw [e, ih (fun x hx => h x (List.mem_cons_of_mem _ hx))]
    generalize idx o c post = r
    cases r with
    | none => rfl
    | some i => simp; omega
theorem sorted_uniq {l : List Kept} (hs : l.Pairwise Before) {i j : Nat} {x y : Kept} (hi : l[i]? = some x) (hj : l[j]? = some y) (h : SameKey x y) : i = j := by
  obtain ⟨h1, e1⟩ := List.getElem?_eq_some_iff.1 hi
  obtain ⟨h2, e2⟩ := List.getElem?_eq_some_iff.1 hj
  unfold SameKey at h
  rcases Nat.lt_trichotomy i j with q | q | q
  · have := List.pairwise_iff_getElem.1 hs i j h1 h2 q
    rw [e1, e2] at this; unfold Before at this; omega
  · exact q
  · have := List.pairwise_iff_getElem.1 hs j i h2 h1 q
    rw [e1, e2] at this; unfold Before at this; omega
/-- What the search finds. -/
theorem found_idx {l : List Kept} {t : Kept} (hl : ∀ k ∈ l, k.Ok) (htok : t.Ok) (hm : ∀ k ∈ l, Small k) (hs : l.Pairwise Before) : foundB l t = (idx t.object t.chunk l).isSome ∧ ∀ i, idx t.object t.chunk l = some i → found l t = i := by
  obtain ⟨h1, h2⟩ := foundB_there hl htok hm hs
  have h3 : there l t = (idx t.object t.chunk l).isSome := by
    rw [Bool.eq_iff_iff, there, decide_eq_true_eq]
    cases h : idx t.object t.chunk l with
    | none => 
      have := idx_none.1 h
      simp only [Option.isSome_none, Bool.false_eq_true, iff_false]
      rintro ⟨k, hk, hsame⟩
      exact this k hk hsame
    | some i =>
      obtain ⟨x, hx, hk⟩ := idx_some h
      simp only [Option.isSome_some, iff_true]
      exact ⟨x, List.mem_of_getElem? hx, hk⟩
  refine ⟨h1.trans h3, fun i hi => ?_⟩
  have ht : there l t = true := by rw [h3, hi]; rfl
  obtain ⟨x, hx, hk⟩ := idx_some hi
  obtain ⟨y, hy, hky⟩ := (there_iff hs t).1 ht
  rw [h2 ht]
  exact sorted_uniq hs hy hx (by unfold SameKey at *; unfold Key at hk; omega)
/-- Where an item comes that is not there. -/
theorem pos_app {t : Kept} {pre post : List Kept} (h1 : ∀ k ∈ pre, Before k t) (h2 : ∀ k ∈ post, ¬ Before k t) : pos (pre ++ post) t = pre.length := by
  unfold pos
  induction pre with
  | nil =>
    cases post with
    | nil => rfl
    | cons k post =>
      have : before k t = false := decide_eq_false (h2 k (by simp))
      simp [List.takeWhile_cons, this]
  | cons k pre ih =>
    have : before k t = true := decide_eq_true (h1 k (by simp))
    simp only [List.cons_append, List.takeWhile_cons, this, if_true, List.length_cons]
    rw [ih (fun x hx => h1 x (List.mem_cons_of_mem _ hx))]
end Go.Proofs.Ytimapebigcmbmaa

set_option linter.unusedVariables false
set_option linter.unusedSimpArgs false
namespace Go.Proofs.Ytimapebigcmbmaa
open Go Go.AI Go.Proofs

def idxI (o : Option Nat) : Int := match o with
  | some i => i
  | none => -1
theorem L19 (all : List Kept) (hn : all.length ≤ 1000000) (o c : Int) (K : AX → State → Prop)
    (hK : ∀ j, idx o c all = none → K (.x 0) ⟨[(0, .c (.list 0 7 (rowsK all))), (1, .c (.int .i64 o)), (2, .c (.int .i64 c)), (7, .c (.int .i64 j)), (11, .c (.bool false))], []⟩)
    (hR : ∀ i : Nat, idx o c all = some i → K .r ⟨[(6, .c (.int .i64 i))], []⟩) :
    ∀ (post pre : List Kept), pre ++ post = all → (∀ k ∈ pre, ¬ Key o c k) → (IR.loop [] i19_L0).go Try.prog ⟨[(0, .c (.list 0 7 (rowsK all))), (1, .c (.int .i64 o)), (2, .c (.int .i64 c)), (7, .c (.int .i64 pre.length))], []⟩ K := by
  intro post
  induction post with
  | nil =>
    intro pre hp hs
    obtain rfl : pre = all := by simpa using hp
    refine go_loop fun L hL => ?_
    simp -implicitDefEqProofs (disch := omega) only [i19_0, i19_1, i19_2, i19_3, i19_4, i19_5, i19_6, i19_K0, i19, i19_L0, rowsK_len, zS, State.step, State.pure, State.pure.capsOf, arrGo, State.ghosts, State.ghost, State.srcRows, State.arrRows, State.pure.fillC, State.bound, State.rd, takeC, args0, State.res, State.res1, State.resS, State.resL, normS, AC.pure, splice, ↓reduceIte, Nat.reduceEqDiff, Nat.reduceLT, Nat.reduceLeDiff, Nat.reduceAdd, Nat.reduceSub, Nat.reduceMul, Int.reduceLE, Int.reduceLT, Int.reduceToNat, Int.reduceEq, Int.reduceNe, Int.reduceAdd, Int.reduceMul, Int.reducePow, Int.reduceNeg, Nat.reduceBEq, Int.reduceBNe, Int.reduceBEq, reduceCtorEq, ne_eq, IntWalk.iteOmega]
    rw [hL]; exact hK _ (idx_none.2 hs)
  | cons x post ih =>
    intro pre hp hs
    have hget := row_at hp
    have hlt : (pre.length : Int) < all.length := by rw [← hp]; simp; omega
    have hN : ¬ Key o c x → _ := fun e => ih (pre ++ [x]) (by rw [← hp]; simp) (fun k hk => by
      rcases List.mem_append.1 hk with h | h
      · exact hs k h
      · simp at h; rw [h]; exact e)
    have hF : Key o c x → K .r ⟨[(6, .c (.int .i64 pre.length))], []⟩ := fun e => hR pre.length (by
      rw [← hp, idx_app hs, idx, if_pos e]; simp)
    simp only [List.length_append, List.length_cons, List.length_nil] at hN
    clear hs
    refine go_loop fun L hL => ?_
    simp -implicitDefEqProofs (disch := omega) only [i19_0, i19_1, i19_2, i19_3, i19_4, i19_5, i19_6, i19_K0, i19, i19_L0, hlt, hget, Kept.enc, rowsK_len, zS, State.step, State.pure, State.pure.capsOf, arrGo, State.ghosts, State.ghost, State.srcRows, State.arrRows, State.pure.fillC, State.bound, State.rd, takeC, args0, State.res, State.res1, State.resS, State.resL, normS, AC.pure, splice, ↓reduceIte, Nat.reduceEqDiff, Nat.reduceLT, Nat.reduceLeDiff, Nat.reduceAdd, Nat.reduceSub, Nat.reduceMul, Int.reduceLE, Int.reduceLT, Int.reduceToNat, Int.reduceEq, Int.reduceNe, Int.reduceAdd, Int.reduceMul, Int.reducePow, Int.reduceNeg, Nat.reduceBEq, Int.reduceBNe, Int.reduceBEq, reduceCtorEq, ne_eq, IntWalk.iteOmega]
    repeat' (first | ((with_reducible first | refine gIf_dT (fun h h' => ?_) (fun h h' => ?_) | refine gIf_dF (fun h h' => ?_) (fun h h' => ?_) | refine gCond_d (fun h h' => ?_) (fun h h' => ?_) | refine gIf_bT (fun h h' => ?_) (fun h h' => ?_) | refine gIf_bF (fun h h' => ?_) (fun h h' => ?_) | refine gCond_b (fun h h' => ?_) (fun h h' => ?_)) <;> (simp -implicitDefEqProofs (disch := omega) only [h', i19_0, i19_1, i19_2, i19_3, i19_4, i19_5, i19_6, i19_K0, i19, hlt, hget, Kept.enc, rowsK_len, zS, State.step, State.pure, State.pure.capsOf, arrGo, State.ghosts, State.ghost, State.srcRows, State.arrRows, State.pure.fillC, State.bound, State.rd, takeC, args0, State.res, State.res1, State.resS, State.resL, normS, AC.pure, splice, ↓reduceIte, Nat.reduceEqDiff, Nat.reduceLT, Nat.reduceLeDiff, Nat.reduceAdd, Nat.reduceSub, Nat.reduceMul, Int.reduceLE, Int.reduceLT, Int.reduceToNat, Int.reduceEq, Int.reduceNe, Int.reduceAdd, Int.reduceMul, Int.reducePow, Int.reduceNeg, Nat.reduceBEq, Int.reduceBNe, Int.reduceBEq, reduceCtorEq, ne_eq, IntWalk.iteOmega] <;> clear h')))
    all_goals first
      | (rw [hL]; exact hF ⟨by assumption, by assumption⟩)
      | (rw [hL]; refine hN ?_; unfold Key; simp_all; done)
theorem T19 (l : List Kept) (hn : l.length ≤ 1000000) (o c : Int) : RunsTo Try.prog 19 [.c (.list 0 7 (rowsK l)), .c (.int .i64 o), .c (.int .i64 c)] [] (.c (.int .i64 (idxI (idx o c l)))) [] := by
  refine R19 (by simp) ?_
  simp -implicitDefEqProofs (disch := omega) only [i19_0, i19_1, i19_2, i19_3, i19_4, i19_5, i19_6, i19_K0, i19, zS, State.step, State.pure, State.pure.capsOf, arrGo, State.ghosts, State.ghost, State.srcRows, State.arrRows, State.pure.fillC, State.bound, State.rd, takeC, args0, State.res, State.res1, State.resS, State.resL, normS, AC.pure, splice, ↓reduceIte, Nat.reduceEqDiff, Nat.reduceLT, Nat.reduceLeDiff, Nat.reduceAdd, Nat.reduceSub, Nat.reduceMul, Int.reduceLE, Int.reduceLT, Int.reduceToNat, Int.reduceEq, Int.reduceNe, Int.reduceAdd, Int.reduceMul, Int.reducePow, Int.reduceNeg, Nat.reduceBEq, Int.reduceBNe, Int.reduceBEq, reduceCtorEq, ne_eq, IntWalk.iteOmega]
  refine L19 l hn o c _ (fun j e => ?_) (fun i e => ?_) l [] rfl (by simp)
  · simp -implicitDefEqProofs (disch := omega) only [zS, State.step, State.pure, State.pure.capsOf, arrGo, State.ghosts, State.ghost, State.srcRows, State.arrRows, State.pure.fillC, State.bound, State.rd, takeC, args0, State.res, State.res1, State.resS, State.resL, normS, AC.pure, splice, ↓reduceIte, Nat.reduceEqDiff, Nat.reduceLT, Nat.reduceLeDiff, Nat.reduceAdd, Nat.reduceSub, Nat.reduceMul, Int.reduceLE, Int.reduceLT, Int.reduceToNat, Int.reduceEq, Int.reduceNe, Int.reduceAdd, Int.reduceMul, Int.reducePow, Int.reduceNeg, Nat.reduceBEq, Int.reduceBNe, Int.reduceBEq, reduceCtorEq, ne_eq, IntWalk.iteOmega]
    (refine fin_pure rfl ?_ not_x_r; simp only [rs19, zS, State.step, State.pure, State.pure.capsOf, arrGo, State.ghosts, State.ghost, State.srcRows, State.arrRows, State.pure.fillC, State.bound, State.rd, takeC, args0, State.res, State.res1, State.resS, State.resL, normS, AC.pure, splice, ↓reduceIte, Nat.reduceEqDiff, Nat.reduceLT, Nat.reduceLeDiff, Nat.reduceAdd, Nat.reduceSub, Nat.reduceMul, Int.reduceLE, Int.reduceLT, Int.reduceToNat, Int.reduceEq, Int.reduceNe, Int.reduceAdd, Int.reduceMul, Int.reducePow, Int.reduceNeg, Nat.reduceBEq, Int.reduceBNe, Int.reduceBEq, reduceCtorEq, ne_eq, IntWalk.iteOmega])
    rw [e]; rfl
  · simp -implicitDefEqProofs (disch := omega) only [zS, State.step, State.pure, State.pure.capsOf, arrGo, State.ghosts, State.ghost, State.srcRows, State.arrRows, State.pure.fillC, State.bound, State.rd, takeC, args0, State.res, State.res1, State.resS, State.resL, normS, AC.pure, splice, ↓reduceIte, Nat.reduceEqDiff, Nat.reduceLT, Nat.reduceLeDiff, Nat.reduceAdd, Nat.reduceSub, Nat.reduceMul, Int.reduceLE, Int.reduceLT, Int.reduceToNat, Int.reduceEq, Int.reduceNe, Int.reduceAdd, Int.reduceMul, Int.reducePow, Int.reduceNeg, Nat.reduceBEq, Int.reduceBNe, Int.reduceBEq, reduceCtorEq, ne_eq, IntWalk.iteOmega]
    (refine fin_pure rfl ?_ not_x_r; simp only [rs19, zS, State.step, State.pure, State.pure.capsOf, arrGo, State.ghosts, State.ghost, State.srcRows, State.arrRows, State.pure.fillC, State.bound, State.rd, takeC, args0, State.res, State.res1, State.resS, State.resL, normS, AC.pure, splice, ↓reduceIte, Nat.reduceEqDiff, Nat.reduceLT, Nat.reduceLeDiff, Nat.reduceAdd, Nat.reduceSub, Nat.reduceMul, Int.reduceLE, Int.reduceLT, Int.reduceToNat, Int.reduceEq, Int.reduceNe, Int.reduceAdd, Int.reduceMul, Int.reducePow, Int.reduceNeg, Nat.reduceBEq, Int.reduceBNe, Int.reduceBEq, reduceCtorEq, ne_eq, IntWalk.iteOmega])
    rw [e]; rfl
def rowsO (l : List Op) : List (List AC) := l.map Op.enc
theorem rowsO_len (l : List Op) : (rowsO l).length = l.length := by simp [rowsO]
theorem rowO_at {pre post all : List Op} {x : Op} (h : pre ++ x :: post = all) : (rowsO all)[pre.length]? = some x.enc := by rw [← h]; simp [rowsO]
def Few (l : List Op) : Prop := l.length ≤ 40 ∧ ∀ o ∈ l, o.k.bytes.size ≤ 60
theorem L18 (all : List Op) (hn : all.length ≤ 1000000) (K : AX → State → Prop)
    (hK : ∀ j, (∀ o ∈ all, o.k.bytes.size ≤ 60) → K (.x 0) ⟨[(0, .c (.list 0 9 (rowsO all))), (3, .c (.int .i64 j)), (10, .c (.bool false))], []⟩)
    (hR : ¬ (∀ o ∈ all, o.k.bytes.size ≤ 60) → K .r ⟨[(2, .c (.bool false))], []⟩) :
    ∀ (post pre : List Op), pre ++ post = all → (∀ o ∈ pre, o.k.bytes.size ≤ 60) → (IR.loop [] i18_L0).go Try.prog ⟨[(0, .c (.list 0 9 (rowsO all))), (3, .c (.int .i64 pre.length))], []⟩ K := by
  intro post
  induction post with
  | nil =>
    intro pre hp hs
    obtain rfl : pre = all := by simpa using hp
    refine go_loop fun L hL => ?_
    simp -implicitDefEqProofs (disch := omega) only [i18_0, i18_1, i18_2, i18_3, i18_4, i18_5, i18_6, i18_7, i18_8, i18_K0, i18, i18_L0, rowsO_len, zS, State.step, State.pure, State.pure.capsOf, arrGo, State.ghosts, State.ghost, State.srcRows, State.arrRows, State.pure.fillC, State.bound, State.rd, takeC, args0, State.res, State.res1, State.resS, State.resL, normS, AC.pure, splice, ↓reduceIte, Nat.reduceEqDiff, Nat.reduceLT, Nat.reduceLeDiff, Nat.reduceAdd, Nat.reduceSub, Nat.reduceMul, Int.reduceLE, Int.reduceLT, Int.reduceToNat, Int.reduceEq, Int.reduceNe, Int.reduceAdd, Int.reduceMul, Int.reducePow, Int.reduceNeg, Nat.reduceBEq, Int.reduceBNe, Int.reduceBEq, reduceCtorEq, ne_eq, IntWalk.iteOmega]
    rw [hL]; exact hK _ hs
  | cons x post ih =>
    intro pre hp hs
    have hget := rowO_at hp
    have hlt : (pre.length : Int) < all.length := by rw [← hp]; simp; omega
    refine go_loop fun L hL => ?_
    have hN : x.k.bytes.size ≤ 60 → _ := fun e => ih (pre ++ [x]) (by rw [← hp]; simp) (fun k hk => by
      rcases List.mem_append.1 hk with h | h
      · exact hs k h
      · simp at h; rw [h]; exact e)
    simp only [List.length_append, List.length_cons, List.length_nil] at hN
    simp -implicitDefEqProofs (disch := omega) only [i18_0, i18_1, i18_2, i18_3, i18_4, i18_5, i18_6, i18_7, i18_8, i18_K0, i18, i18_L0, hlt, hget, Op.enc, rowsO_len, zS, State.step, State.pure, State.pure.capsOf, arrGo, State.ghosts, State.ghost, State.srcRows, State.arrRows, State.pure.fillC, State.bound, State.rd, takeC, args0, State.res, State.res1, State.resS, State.resL, normS, AC.pure, splice, ↓reduceIte, Nat.reduceEqDiff, Nat.reduceLT, Nat.reduceLeDiff, Nat.reduceAdd, Nat.reduceSub, Nat.reduceMul, Int.reduceLE, Int.reduceLT, Int.reduceToNat, Int.reduceEq, Int.reduceNe, Int.reduceAdd, Int.reduceMul, Int.reducePow, Int.reduceNeg, Nat.reduceBEq, Int.reduceBNe, Int.reduceBEq, reduceCtorEq, ne_eq, IntWalk.iteOmega]
    refine gCond_d (fun h h' => ?_) (fun h h' => ?_)
    · simp -implicitDefEqProofs (disch := omega) only [i18_0, i18_1, i18_2, i18_3, i18_4, i18_5, i18_6, i18_7, i18_8, i18_K0, i18, zS, State.step, State.pure, State.pure.capsOf, arrGo, State.ghosts, State.ghost, State.srcRows, State.arrRows, State.pure.fillC, State.bound, State.rd, takeC, args0, State.res, State.res1, State.resS, State.resL, normS, AC.pure, splice, ↓reduceIte, Nat.reduceEqDiff, Nat.reduceLT, Nat.reduceLeDiff, Nat.reduceAdd, Nat.reduceSub, Nat.reduceMul, Int.reduceLE, Int.reduceLT, Int.reduceToNat, Int.reduceEq, Int.reduceNe, Int.reduceAdd, Int.reduceMul, Int.reducePow, Int.reduceNeg, Nat.reduceBEq, Int.reduceBNe, Int.reduceBEq, reduceCtorEq, ne_eq, IntWalk.iteOmega]
      rw [hL]
      exact hR fun hall => by have := hall x (by rw [← hp]; simp); omega
    · simp -implicitDefEqProofs (disch := omega) only [zS, State.step, State.pure, State.pure.capsOf, arrGo, State.ghosts, State.ghost, State.srcRows, State.arrRows, State.pure.fillC, State.bound, State.rd, takeC, args0, State.res, State.res1, State.resS, State.resL, normS, AC.pure, splice, ↓reduceIte, Nat.reduceEqDiff, Nat.reduceLT, Nat.reduceLeDiff, Nat.reduceAdd, Nat.reduceSub, Nat.reduceMul, Int.reduceLE, Int.reduceLT, Int.reduceToNat, Int.reduceEq, Int.reduceNe, Int.reduceAdd, Int.reduceMul, Int.reducePow, Int.reduceNeg, Nat.reduceBEq, Int.reduceBNe, Int.reduceBEq, reduceCtorEq, ne_eq, IntWalk.iteOmega]
      rw [hL]
      exact hN (by omega)
theorem T18 (l : List Op) (hn : l.length ≤ 1000000) (b : Bool) (hb : b = true ↔ Few l) : RunsTo Try.prog 18 [.c (.list 0 9 (rowsO l))] [] (.c (.bool b)) [] := by
  refine R18 (by simp) ?_
  simp -implicitDefEqProofs (disch := omega) only [i18_0, i18_1, i18_2, i18_3, i18_4, i18_5, i18_6, i18_7, i18_8, i18_K0, i18, rowsO_len, zS, State.step, State.pure, State.pure.capsOf, arrGo, State.ghosts, State.ghost, State.srcRows, State.arrRows, State.pure.fillC, State.bound, State.rd, takeC, args0, State.res, State.res1, State.resS, State.resL, normS, AC.pure, splice, ↓reduceIte, Nat.reduceEqDiff, Nat.reduceLT, Nat.reduceLeDiff, Nat.reduceAdd, Nat.reduceSub, Nat.reduceMul, Int.reduceLE, Int.reduceLT, Int.reduceToNat, Int.reduceEq, Int.reduceNe, Int.reduceAdd, Int.reduceMul, Int.reducePow, Int.reduceNeg, Nat.reduceBEq, Int.reduceBNe, Int.reduceBEq, reduceCtorEq, ne_eq, IntWalk.iteOmega]
  refine gCond_d (fun h h' => ?_) (fun h h' => ?_)
  · simp -implicitDefEqProofs (disch := omega) only [zS, State.step, State.pure, State.pure.capsOf, arrGo, State.ghosts, State.ghost, State.srcRows, State.arrRows, State.pure.fillC, State.bound, State.rd, takeC, args0, State.res, State.res1, State.resS, State.resL, normS, AC.pure, splice, ↓reduceIte, Nat.reduceEqDiff, Nat.reduceLT, Nat.reduceLeDiff, Nat.reduceAdd, Nat.reduceSub, Nat.reduceMul, Int.reduceLE, Int.reduceLT, Int.reduceToNat, Int.reduceEq, Int.reduceNe, Int.reduceAdd, Int.reduceMul, Int.reducePow, Int.reduceNeg, Nat.reduceBEq, Int.reduceBNe, Int.reduceBEq, reduceCtorEq, ne_eq, IntWalk.iteOmega]
    obtain rfl : b = false := by
      cases b with
      | false => rfl
      | true => have := (hb.1 rfl).1; omega
    (refine fin_pure rfl ?_ not_x_r; simp only [rs18, zS, State.step, State.pure, State.pure.capsOf, arrGo, State.ghosts, State.ghost, State.srcRows, State.arrRows, State.pure.fillC, State.bound, State.rd, takeC, args0, State.res, State.res1, State.resS, State.resL, normS, AC.pure, splice, ↓reduceIte, Nat.reduceEqDiff, Nat.reduceLT, Nat.reduceLeDiff, Nat.reduceAdd, Nat.reduceSub, Nat.reduceMul, Int.reduceLE, Int.reduceLT, Int.reduceToNat, Int.reduceEq, Int.reduceNe, Int.reduceAdd, Int.reduceMul, Int.reducePow, Int.reduceNeg, Nat.reduceBEq, Int.reduceBNe, Int.reduceBEq, reduceCtorEq, ne_eq, IntWalk.iteOmega])
  · simp -implicitDefEqProofs (disch := omega) only [zS, State.step, State.pure, State.pure.capsOf, arrGo, State.ghosts, State.ghost, State.srcRows, State.arrRows, State.pure.fillC, State.bound, State.rd, takeC, args0, State.res, State.res1, State.resS, State.resL, normS, AC.pure, splice, ↓reduceIte, Nat.reduceEqDiff, Nat.reduceLT, Nat.reduceLeDiff, Nat.reduceAdd, Nat.reduceSub, Nat.reduceMul, Int.reduceLE, Int.reduceLT, Int.reduceToNat, Int.reduceEq, Int.reduceNe, Int.reduceAdd, Int.reduceMul, Int.reducePow, Int.reduceNeg, Nat.reduceBEq, Int.reduceBNe, Int.reduceBEq, reduceCtorEq, ne_eq, IntWalk.iteOmega]
    refine L18 l hn _ (fun j e => ?_) (fun e => ?_) l [] rfl (by simp)
    · obtain rfl : b = true := hb.2 ⟨by omega, e⟩
      simp -implicitDefEqProofs (disch := omega) only [zS, State.step, State.pure, State.pure.capsOf, arrGo, State.ghosts, State.ghost, State.srcRows, State.arrRows, State.pure.fillC, State.bound, State.rd, takeC, args0, State.res, State.res1, State.resS, State.resL, normS, AC.pure, splice, ↓reduceIte, Nat.reduceEqDiff, Nat.reduceLT, Nat.reduceLeDiff, Nat.reduceAdd, Nat.reduceSub, Nat.reduceMul, Int.reduceLE, Int.reduceLT, Int.reduceToNat, Int.reduceEq, Int.reduceNe, Int.reduceAdd, Int.reduceMul, Int.reducePow, Int.reduceNeg, Nat.reduceBEq, Int.reduceBNe, Int.reduceBEq, reduceCtorEq, ne_eq, IntWalk.iteOmega]
      (refine fin_pure rfl ?_ not_x_r; simp only [rs18, zS, State.step, State.pure, State.pure.capsOf, arrGo, State.ghosts, State.ghost, State.srcRows, State.arrRows, State.pure.fillC, State.bound, State.rd, takeC, args0, State.res, State.res1, State.resS, State.resL, normS, AC.pure, splice, ↓reduceIte, Nat.reduceEqDiff, Nat.reduceLT, Nat.reduceLeDiff, Nat.reduceAdd, Nat.reduceSub, Nat.reduceMul, Int.reduceLE, Int.reduceLT, Int.reduceToNat, Int.reduceEq, Int.reduceNe, Int.reduceAdd, Int.reduceMul, Int.reducePow, Int.reduceNeg, Nat.reduceBEq, Int.reduceBNe, Int.reduceBEq, reduceCtorEq, ne_eq, IntWalk.iteOmega])
    · obtain rfl : b = false := by
        cases b with
        | false => rfl
        | true => exact absurd (hb.1 rfl).2 e
      simp -implicitDefEqProofs (disch := omega) only [zS, State.step, State.pure, State.pure.capsOf, arrGo, State.ghosts, State.ghost, State.srcRows, State.arrRows, State.pure.fillC, State.bound, State.rd, takeC, args0, State.res, State.res1, State.resS, State.resL, normS, AC.pure, splice, ↓reduceIte, Nat.reduceEqDiff, Nat.reduceLT, Nat.reduceLeDiff, Nat.reduceAdd, Nat.reduceSub, Nat.reduceMul, Int.reduceLE, Int.reduceLT, Int.reduceToNat, Int.reduceEq, Int.reduceNe, Int.reduceAdd, Int.reduceMul, Int.reducePow, Int.reduceNeg, Nat.reduceBEq, Int.reduceBNe, Int.reduceBEq, reduceCtorEq, ne_eq, IntWalk.iteOmega]
      (refine fin_pure rfl ?_ not_x_r; simp only [rs18, zS, State.step, State.pure, State.pure.capsOf, arrGo, State.ghosts, State.ghost, State.srcRows, State.arrRows, State.pure.fillC, State.bound, State.rd, takeC, args0, State.res, State.res1, State.resS, State.resL, normS, AC.pure, splice, ↓reduceIte, Nat.reduceEqDiff, Nat.reduceLT, Nat.reduceLeDiff, Nat.reduceAdd, Nat.reduceSub, Nat.reduceMul, Int.reduceLE, Int.reduceLT, Int.reduceToNat, Int.reduceEq, Int.reduceNe, Int.reduceAdd, Int.reduceMul, Int.reducePow, Int.reduceNeg, Nat.reduceBEq, Int.reduceBNe, Int.reduceBEq, reduceCtorEq, ne_eq, IntWalk.iteOmega])
/-! ### Tick and Forget of the specification -/
def zM : List AC := [.int .i64 0, .int .i64 0, .list 1 7 [], .list 1 7 [], .str ⟨#[]⟩, .int .i64 0, .int .i64 0]
theorem len_filter (p : Kept → Bool) (pre post all : List Kept) (h : pre ++ post = all) (hn : all.length ≤ 1000000) : (pre.filter p).length ≤ 1000000 := by
  have := List.length_filter_le p pre; have : pre.length ≤ all.length := by rw [← h]; simp
  omega
theorem L32 (c : Cache) (n : Int) (hn : c.items.length ≤ 1000000) (K : AX → State → Prop)
    (hK : ∀ j lv, lv = 1 ∨ lv = 2 → K (.x 0) ⟨[(1, .c (.int .i64 n)), (2, .c (.ptr (some (0, 0)))), (4, .c (.ptr (some (1, 0)))), (6, .c (.ptr (some (2, 0)))), (7, .c (.int .i64 j)), (33, .c (.bool false))], [.cells c.enc, .cells zM, .cells [.int .i64 c.room, .int .i64 n, .list lv 7 (rowsK (c.items.filter fun k => decide (n ≤ k.last)))]]⟩) :
    ∀ (post pre : List Kept) (lv : Nat), pre ++ post = c.items → lv = 1 ∨ lv = 2 → (IR.loop [] i32_L0).go Try.prog ⟨[(1, .c (.int .i64 n)), (2, .c (.ptr (some (0, 0)))), (4, .c (.ptr (some (1, 0)))), (6, .c (.ptr (some (2, 0)))), (7, .c (.int .i64 pre.length))], [.cells c.enc, .cells zM, .cells [.int .i64 c.room, .int .i64 n, .list lv 7 (rowsK (pre.filter fun k => decide (n ≤ k.last)))]]⟩ K := by
  intro post
  induction post with
  | nil =>
    intro pre lv hp hlv
    have hl : c.items = pre := by simpa using hp.symm
    refine go_loop fun L hL => ?_
    rcases hlv with rfl | rfl <;>
    · simp -implicitDefEqProofs (disch := omega) only [i32_0, i32_1, i32_2, i32_3, i32_4, i32_5, i32_6, i32_7, i32_8, i32_9, i32_10, i32_11, i32_12, i32_13, i32_14, i32_K0, i32, i32_L0, rowsK_len, hl, Cache.enc, zS, State.step, State.pure, State.pure.capsOf, arrGo, State.ghosts, State.ghost, State.srcRows, State.arrRows, State.pure.fillC, State.bound, State.rd, takeC, args0, State.res, State.res1, State.resS, State.resL, normS, AC.pure, splice, ↓reduceIte, Nat.reduceEqDiff, Nat.reduceLT, Nat.reduceLeDiff, Nat.reduceAdd, Nat.reduceSub, Nat.reduceMul, Int.reduceLE, Int.reduceLT, Int.reduceToNat, Int.reduceEq, Int.reduceNe, Int.reduceAdd, Int.reduceMul, Int.reducePow, Int.reduceNeg, Nat.reduceBEq, Int.reduceBNe, Int.reduceBEq, reduceCtorEq, ne_eq, IntWalk.iteOmega]
      rw [hL]
      have := hK pre.length
      simp only [hl, Cache.enc] at this
      first | exact this 1 (.inl rfl) | exact this 2 (.inr rfl)
  | cons x post ih =>
    intro pre lv hp hlv
    have hget := row_at hp
    have hlt : (pre.length : Int) < c.items.length := by rw [← hp]; simp; omega
    have hlen := len_filter (fun k => decide (n ≤ k.last)) pre _ _ hp hn
    have hT : n ≤ x.last → _ := fun e => ih (pre ++ [x]) 2 (by rw [← hp]; simp) (.inr rfl)
    have hF : ¬ n ≤ x.last → ∀ lv, lv = 1 ∨ lv = 2 → _ := fun e lv hlv => ih (pre ++ [x]) lv (by rw [← hp]; simp) hlv
    simp only [List.length_append, List.length_cons, List.length_nil, List.filter_append] at hT hF
    refine go_loop fun L hL => ?_
    clear ih
    rcases hlv with rfl | rfl <;>
    · simp -implicitDefEqProofs (disch := omega) only [i32_0, i32_1, i32_2, i32_3, i32_4, i32_5, i32_6, i32_7, i32_8, i32_9, i32_10, i32_11, i32_12, i32_13, i32_14, i32_K0, i32, i32_L0, hlt, hget, Kept.enc, rowsK_len, Cache.enc, zM, zS, State.step, State.pure, State.pure.capsOf, arrGo, State.ghosts, State.ghost, State.srcRows, State.arrRows, State.pure.fillC, State.bound, State.rd, takeC, args0, State.res, State.res1, State.resS, State.resL, normS, AC.pure, splice, ↓reduceIte, Nat.reduceEqDiff, Nat.reduceLT, Nat.reduceLeDiff, Nat.reduceAdd, Nat.reduceSub, Nat.reduceMul, Int.reduceLE, Int.reduceLT, Int.reduceToNat, Int.reduceEq, Int.reduceNe, Int.reduceAdd, Int.reduceMul, Int.reducePow, Int.reduceNeg, Nat.reduceBEq, Int.reduceBNe, Int.reduceBEq, reduceCtorEq, ne_eq, IntWalk.iteOmega]
      refine gCond_d (fun e e' => ?_) (fun e e' => ?_)
      · simp -implicitDefEqProofs (disch := omega) only [i32_0, i32_1, i32_2, i32_3, i32_4, i32_5, i32_6, i32_7, i32_8, i32_9, i32_10, i32_11, i32_12, i32_13, i32_14, i32_K0, i32, i32_L0, hlt, hget, Kept.enc, rowsK_len, Cache.enc, zM, zS, State.step, State.pure, State.pure.capsOf, arrGo, State.ghosts, State.ghost, State.srcRows, State.arrRows, State.pure.fillC, State.bound, State.rd, takeC, args0, State.res, State.res1, State.resS, State.resL, normS, AC.pure, splice, ↓reduceIte, Nat.reduceEqDiff, Nat.reduceLT, Nat.reduceLeDiff, Nat.reduceAdd, Nat.reduceSub, Nat.reduceMul, Int.reduceLE, Int.reduceLT, Int.reduceToNat, Int.reduceEq, Int.reduceNe, Int.reduceAdd, Int.reduceMul, Int.reducePow, Int.reduceNeg, Nat.reduceBEq, Int.reduceBNe, Int.reduceBEq, reduceCtorEq, ne_eq, IntWalk.iteOmega]
        rw [hL]
        have := hT e
        simp only [List.filter_cons, e, decide_true, if_true, List.filter_nil, ← rowsK_snoc] at this
        exact this
      · simp -implicitDefEqProofs (disch := omega) only [i32_0, i32_1, i32_2, i32_3, i32_4, i32_5, i32_6, i32_7, i32_8, i32_9, i32_10, i32_11, i32_12, i32_13, i32_14, i32_K0, i32, zS, State.step, State.pure, State.pure.capsOf, arrGo, State.ghosts, State.ghost, State.srcRows, State.arrRows, State.pure.fillC, State.bound, State.rd, takeC, args0, State.res, State.res1, State.resS, State.resL, normS, AC.pure, splice, ↓reduceIte, Nat.reduceEqDiff, Nat.reduceLT, Nat.reduceLeDiff, Nat.reduceAdd, Nat.reduceSub, Nat.reduceMul, Int.reduceLE, Int.reduceLT, Int.reduceToNat, Int.reduceEq, Int.reduceNe, Int.reduceAdd, Int.reduceMul, Int.reducePow, Int.reduceNeg, Nat.reduceBEq, Int.reduceBNe, Int.reduceBEq, reduceCtorEq, ne_eq, IntWalk.iteOmega]
        rw [hL]
        have h1 := hF e 1 (.inl rfl)
        have h2 := hF e 2 (.inr rfl)
        simp only [List.filter_cons, e, decide_false, List.filter_nil, List.append_nil, Bool.false_eq_true, if_false] at h1 h2
        first | exact h1 | exact h2
def refTick (c : Cache) (n : Int) : Made := ⟨(tick c n).1, [], ⟨#[]⟩, 0, (tick c n).2⟩
theorem T32 (c : Cache) (n : Int) (hc : c.Ok) : RunsTo Try.prog 32 [.agg c.enc, .c (.int .i64 n)] [] (.agg (refTick c n).enc) [] := by
  have h13 := T13 c hc
  have hn := hc.few
  have hL := fun K hK => L32 c n hn K hK c.items [] 1 rfl (.inl rfl)
  clear hc
  refine nrm (Q32 (by simp) ?_)
  simp -implicitDefEqProofs (disch := omega) only [i32_0, i32_1, i32_2, i32_3, i32_4, i32_5, i32_6, i32_7, i32_8, i32_9, i32_10, i32_11, i32_12, i32_13, i32_14, i32, Cache.enc, zS, State.step, State.pure, State.pure.capsOf, arrGo, State.ghosts, State.ghost, State.srcRows, State.arrRows, State.pure.fillC, State.bound, State.rd, takeC, args0, State.res, State.res1, State.resS, State.resL, normS, AC.pure, splice, ↓reduceIte, Nat.reduceEqDiff, Nat.reduceLT, Nat.reduceLeDiff, Nat.reduceAdd, Nat.reduceSub, Nat.reduceMul, Int.reduceLE, Int.reduceLT, Int.reduceToNat, Int.reduceEq, Int.reduceNe, Int.reduceAdd, Int.reduceMul, Int.reducePow, Int.reduceNeg, Nat.reduceBEq, Int.reduceBNe, Int.reduceBEq, reduceCtorEq, ne_eq, IntWalk.iteOmega]
  refine call_pure h13 rfl rfl ?_
  simp -implicitDefEqProofs (disch := omega) only [i32_0, i32_1, i32_2, i32_3, i32_4, i32_5, i32_6, i32_7, i32_8, i32_9, i32_10, i32_11, i32_12, i32_13, i32_14, i32, zS, State.step, State.pure, State.pure.capsOf, arrGo, State.ghosts, State.ghost, State.srcRows, State.arrRows, State.pure.fillC, State.bound, State.rd, takeC, args0, State.res, State.res1, State.resS, State.resL, normS, AC.pure, splice, ↓reduceIte, Nat.reduceEqDiff, Nat.reduceLT, Nat.reduceLeDiff, Nat.reduceAdd, Nat.reduceSub, Nat.reduceMul, Int.reduceLE, Int.reduceLT, Int.reduceToNat, Int.reduceEq, Int.reduceNe, Int.reduceAdd, Int.reduceMul, Int.reducePow, Int.reduceNeg, Nat.reduceBEq, Int.reduceBNe, Int.reduceBEq, reduceCtorEq, ne_eq, IntWalk.iteOmega]
  refine gCond_d (fun c1 c1' => ?_) (fun c1 c1' => ?_)
  · simp -implicitDefEqProofs (disch := omega) only [i32_0, i32_1, i32_2, i32_3, i32_4, i32_5, i32_6, i32_7, i32_8, i32_9, i32_10, i32_11, i32_12, i32_13, i32_14, i32, zS, State.step, State.pure, State.pure.capsOf, arrGo, State.ghosts, State.ghost, State.srcRows, State.arrRows, State.pure.fillC, State.bound, State.rd, takeC, args0, State.res, State.res1, State.resS, State.resL, normS, AC.pure, splice, ↓reduceIte, Nat.reduceEqDiff, Nat.reduceLT, Nat.reduceLeDiff, Nat.reduceAdd, Nat.reduceSub, Nat.reduceMul, Int.reduceLE, Int.reduceLT, Int.reduceToNat, Int.reduceEq, Int.reduceNe, Int.reduceAdd, Int.reduceMul, Int.reducePow, Int.reduceNeg, Nat.reduceBEq, Int.reduceBNe, Int.reduceBEq, reduceCtorEq, ne_eq, IntWalk.iteOmega]
    refine gCond_d (fun c2 c2' => ?_) (fun c2 c2' => ?_)
    · have e : tick c n = (c, 15) := by rw [tick, if_neg (by simpa using c1), if_pos c2]
      simp -implicitDefEqProofs (disch := omega) only [i32_0, i32_1, i32_2, i32_3, i32_4, i32_5, i32_6, i32_7, i32_8, i32_9, i32_10, i32_11, i32_12, i32_13, i32_14, i32, zS, State.step, State.pure, State.pure.capsOf, arrGo, State.ghosts, State.ghost, State.srcRows, State.arrRows, State.pure.fillC, State.bound, State.rd, takeC, args0, State.res, State.res1, State.resS, State.resL, normS, AC.pure, splice, ↓reduceIte, Nat.reduceEqDiff, Nat.reduceLT, Nat.reduceLeDiff, Nat.reduceAdd, Nat.reduceSub, Nat.reduceMul, Int.reduceLE, Int.reduceLT, Int.reduceToNat, Int.reduceEq, Int.reduceNe, Int.reduceAdd, Int.reduceMul, Int.reducePow, Int.reduceNeg, Nat.reduceBEq, Int.reduceBNe, Int.reduceBEq, reduceCtorEq, ne_eq, IntWalk.iteOmega]
      (refine fin_pureN ?_ not_x_r; simp only [rs32, zS, State.step, State.pure, State.pure.capsOf, arrGo, State.ghosts, State.ghost, State.srcRows, State.arrRows, State.pure.fillC, State.bound, State.rd, takeC, args0, State.res, State.res1, State.resS, State.resL, normS, AC.pure, splice, ↓reduceIte, Nat.reduceEqDiff, Nat.reduceLT, Nat.reduceLeDiff, Nat.reduceAdd, Nat.reduceSub, Nat.reduceMul, Int.reduceLE, Int.reduceLT, Int.reduceToNat, Int.reduceEq, Int.reduceNe, Int.reduceAdd, Int.reduceMul, Int.reducePow, Int.reduceNeg, Nat.reduceBEq, Int.reduceBNe, Int.reduceBEq, reduceCtorEq, ne_eq, IntWalk.iteOmega]; refine ⟨_, rfl, rfl, ?_⟩)
      rw [refTick, e]; rfl
    · simp -implicitDefEqProofs (disch := omega) only [i32_0, i32_1, i32_2, i32_3, i32_4, i32_5, i32_6, i32_7, i32_8, i32_9, i32_10, i32_11, i32_12, i32_13, i32_14, i32, zS, State.step, State.pure, State.pure.capsOf, arrGo, State.ghosts, State.ghost, State.srcRows, State.arrRows, State.pure.fillC, State.bound, State.rd, takeC, args0, State.res, State.res1, State.resS, State.resL, normS, AC.pure, splice, ↓reduceIte, Nat.reduceEqDiff, Nat.reduceLT, Nat.reduceLeDiff, Nat.reduceAdd, Nat.reduceSub, Nat.reduceMul, Int.reduceLE, Int.reduceLT, Int.reduceToNat, Int.reduceEq, Int.reduceNe, Int.reduceAdd, Int.reduceMul, Int.reducePow, Int.reduceNeg, Nat.reduceBEq, Int.reduceBNe, Int.reduceBEq, reduceCtorEq, ne_eq, IntWalk.iteOmega]
      refine gCond_d (fun c3 c3' => ?_) (fun c3 c3' => ?_)
      · have e : tick c n = (c, 3) := by rw [tick, if_neg (by simpa using c1), if_neg c2, if_pos c3]
        simp -implicitDefEqProofs (disch := omega) only [i32_0, i32_1, i32_2, i32_3, i32_4, i32_5, i32_6, i32_7, i32_8, i32_9, i32_10, i32_11, i32_12, i32_13, i32_14, i32, zS, State.step, State.pure, State.pure.capsOf, arrGo, State.ghosts, State.ghost, State.srcRows, State.arrRows, State.pure.fillC, State.bound, State.rd, takeC, args0, State.res, State.res1, State.resS, State.resL, normS, AC.pure, splice, ↓reduceIte, Nat.reduceEqDiff, Nat.reduceLT, Nat.reduceLeDiff, Nat.reduceAdd, Nat.reduceSub, Nat.reduceMul, Int.reduceLE, Int.reduceLT, Int.reduceToNat, Int.reduceEq, Int.reduceNe, Int.reduceAdd, Int.reduceMul, Int.reducePow, Int.reduceNeg, Nat.reduceBEq, Int.reduceBNe, Int.reduceBEq, reduceCtorEq, ne_eq, IntWalk.iteOmega]
        (refine fin_pureN ?_ not_x_r; simp only [rs32, zS, State.step, State.pure, State.pure.capsOf, arrGo, State.ghosts, State.ghost, State.srcRows, State.arrRows, State.pure.fillC, State.bound, State.rd, takeC, args0, State.res, State.res1, State.resS, State.resL, normS, AC.pure, splice, ↓reduceIte, Nat.reduceEqDiff, Nat.reduceLT, Nat.reduceLeDiff, Nat.reduceAdd, Nat.reduceSub, Nat.reduceMul, Int.reduceLE, Int.reduceLT, Int.reduceToNat, Int.reduceEq, Int.reduceNe, Int.reduceAdd, Int.reduceMul, Int.reducePow, Int.reduceNeg, Nat.reduceBEq, Int.reduceBNe, Int.reduceBEq, reduceCtorEq, ne_eq, IntWalk.iteOmega]; refine ⟨_, rfl, rfl, ?_⟩)
        rw [refTick, e]; rfl
      · have e : tick c n = (⟨c.room, n, c.items.filter fun k => decide (n ≤ k.last)⟩, 0) := by rw [tick, if_neg (by simpa using c1), if_neg c2, if_neg c3]
        simp -implicitDefEqProofs (disch := omega) only [i32_0, i32_1, i32_2, i32_3, i32_4, i32_5, i32_6, i32_7, i32_8, i32_9, i32_10, i32_11, i32_12, i32_13, i32_14, i32, zS, State.step, State.pure, State.pure.capsOf, arrGo, State.ghosts, State.ghost, State.srcRows, State.arrRows, State.pure.fillC, State.bound, State.rd, takeC, args0, State.res, State.res1, State.resS, State.resL, normS, AC.pure, splice, ↓reduceIte, Nat.reduceEqDiff, Nat.reduceLT, Nat.reduceLeDiff, Nat.reduceAdd, Nat.reduceSub, Nat.reduceMul, Int.reduceLE, Int.reduceLT, Int.reduceToNat, Int.reduceEq, Int.reduceNe, Int.reduceAdd, Int.reduceMul, Int.reducePow, Int.reduceNeg, Nat.reduceBEq, Int.reduceBNe, Int.reduceBEq, reduceCtorEq, ne_eq, IntWalk.iteOmega]
        refine hL _ fun j lv hlv => ?_
        rcases hlv with rfl | rfl <;>
        · simp -implicitDefEqProofs (disch := omega) only [i32_0, i32_1, i32_2, i32_3, i32_4, i32_5, i32_6, i32_7, i32_8, i32_9, i32_10, i32_11, i32_12, i32_13, i32_14, i32_K0, i32, zM, zS, State.step, State.pure, State.pure.capsOf, arrGo, State.ghosts, State.ghost, State.srcRows, State.arrRows, State.pure.fillC, State.bound, State.rd, takeC, args0, State.res, State.res1, State.resS, State.resL, normS, AC.pure, splice, ↓reduceIte, Nat.reduceEqDiff, Nat.reduceLT, Nat.reduceLeDiff, Nat.reduceAdd, Nat.reduceSub, Nat.reduceMul, Int.reduceLE, Int.reduceLT, Int.reduceToNat, Int.reduceEq, Int.reduceNe, Int.reduceAdd, Int.reduceMul, Int.reducePow, Int.reduceNeg, Nat.reduceBEq, Int.reduceBNe, Int.reduceBEq, reduceCtorEq, ne_eq, IntWalk.iteOmega]
          (refine fin_pureN ?_ not_x_r; simp only [rs32, zS, State.step, State.pure, State.pure.capsOf, arrGo, State.ghosts, State.ghost, State.srcRows, State.arrRows, State.pure.fillC, State.bound, State.rd, takeC, args0, State.res, State.res1, State.resS, State.resL, normS, AC.pure, splice, ↓reduceIte, Nat.reduceEqDiff, Nat.reduceLT, Nat.reduceLeDiff, Nat.reduceAdd, Nat.reduceSub, Nat.reduceMul, Int.reduceLE, Int.reduceLT, Int.reduceToNat, Int.reduceEq, Int.reduceNe, Int.reduceAdd, Int.reduceMul, Int.reducePow, Int.reduceNeg, Nat.reduceBEq, Int.reduceBNe, Int.reduceBEq, reduceCtorEq, ne_eq, IntWalk.iteOmega]; refine ⟨_, rfl, rfl, ?_⟩)
          rw [refTick, e]; rfl
  · have e : tick c n = (c, check c) := by rw [tick, if_pos c1]
    simp -implicitDefEqProofs (disch := omega) only [i32_0, i32_1, i32_2, i32_3, i32_4, i32_5, i32_6, i32_7, i32_8, i32_9, i32_10, i32_11, i32_12, i32_13, i32_14, i32, zS, State.step, State.pure, State.pure.capsOf, arrGo, State.ghosts, State.ghost, State.srcRows, State.arrRows, State.pure.fillC, State.bound, State.rd, takeC, args0, State.res, State.res1, State.resS, State.resL, normS, AC.pure, splice, ↓reduceIte, Nat.reduceEqDiff, Nat.reduceLT, Nat.reduceLeDiff, Nat.reduceAdd, Nat.reduceSub, Nat.reduceMul, Int.reduceLE, Int.reduceLT, Int.reduceToNat, Int.reduceEq, Int.reduceNe, Int.reduceAdd, Int.reduceMul, Int.reducePow, Int.reduceNeg, Nat.reduceBEq, Int.reduceBNe, Int.reduceBEq, reduceCtorEq, ne_eq, IntWalk.iteOmega]
    (refine fin_pureN ?_ not_x_r; simp only [rs32, zS, State.step, State.pure, State.pure.capsOf, arrGo, State.ghosts, State.ghost, State.srcRows, State.arrRows, State.pure.fillC, State.bound, State.rd, takeC, args0, State.res, State.res1, State.resS, State.resL, normS, AC.pure, splice, ↓reduceIte, Nat.reduceEqDiff, Nat.reduceLT, Nat.reduceLeDiff, Nat.reduceAdd, Nat.reduceSub, Nat.reduceMul, Int.reduceLE, Int.reduceLT, Int.reduceToNat, Int.reduceEq, Int.reduceNe, Int.reduceAdd, Int.reduceMul, Int.reducePow, Int.reduceNeg, Nat.reduceBEq, Int.reduceBNe, Int.reduceBEq, reduceCtorEq, ne_eq, IntWalk.iteOmega]; refine ⟨_, rfl, rfl, ?_⟩)
    rw [refTick, e]; rfl
end Go.Proofs.Ytimapebigcmbmaa

set_option linter.unusedVariables false
set_option linter.unusedSimpArgs false
namespace Go.Proofs.Ytimapebigcmbmaa
open Go Go.AI Go.Proofs

theorem L35 (c : Cache) (o : Int) (hn : c.items.length ≤ 1000000) (K : AX → State → Prop)
    (hK : ∀ j lv, lv = 1 ∨ lv = 2 → K (.x 0) ⟨[(1, .c (.int .i64 o)), (2, .c (.ptr (some (0, 0)))), (4, .c (.ptr (some (1, 0)))), (6, .c (.ptr (some (2, 0)))), (7, .c (.int .i64 ((c.items.length : Int) - (c.items.filter fun k => !decide (k.object = o)).length))), (8, .c (.int .i64 j)), (25, .c (.bool false))], [.cells c.enc, .cells zM, .cells [.int .i64 c.room, .int .i64 c.now, .list lv 7 (rowsK (c.items.filter fun k => !decide (k.object = o)))]]⟩) :
    ∀ (post pre : List Kept) (lv : Nat) (v : Int), pre ++ post = c.items → lv = 1 ∨ lv = 2 → v = (pre.length : Int) - (pre.filter fun k => !decide (k.object = o)).length → (IR.loop [] i35_L0).go Try.prog ⟨[(1, .c (.int .i64 o)), (2, .c (.ptr (some (0, 0)))), (4, .c (.ptr (some (1, 0)))), (6, .c (.ptr (some (2, 0)))), (7, .c (.int .i64 v)), (8, .c (.int .i64 pre.length))], [.cells c.enc, .cells zM, .cells [.int .i64 c.room, .int .i64 c.now, .list lv 7 (rowsK (pre.filter fun k => !decide (k.object = o)))]]⟩ K := by
  intro post
  induction post with
  | nil =>
    intro pre lv v hp hlv hv
    subst hv
    have hl : c.items = pre := by simpa using hp.symm
    refine go_loop fun L hL => ?_
    rcases hlv with rfl | rfl <;>
    · simp -implicitDefEqProofs (disch := omega) only [i35_0, i35_1, i35_2, i35_3, i35_4, i35_5, i35_6, i35_7, i35_8, i35_9, i35_10, i35_11, i35_12, i35_K0, i35, i35_L0, rowsK_len, hl, Cache.enc, zS, State.step, State.pure, State.pure.capsOf, arrGo, State.ghosts, State.ghost, State.srcRows, State.arrRows, State.pure.fillC, State.bound, State.rd, takeC, args0, State.res, State.res1, State.resS, State.resL, normS, AC.pure, splice, ↓reduceIte, Nat.reduceEqDiff, Nat.reduceLT, Nat.reduceLeDiff, Nat.reduceAdd, Nat.reduceSub, Nat.reduceMul, Int.reduceLE, Int.reduceLT, Int.reduceToNat, Int.reduceEq, Int.reduceNe, Int.reduceAdd, Int.reduceMul, Int.reducePow, Int.reduceNeg, Nat.reduceBEq, Int.reduceBNe, Int.reduceBEq, reduceCtorEq, ne_eq, IntWalk.iteOmega]
      rw [hL]
      have := hK pre.length
      simp only [hl, Cache.enc] at this
      first | exact this 1 (.inl rfl) | exact this 2 (.inr rfl)
  | cons x post ih =>
    intro pre lv v hp hlv hv
    have hget := row_at hp
    have hlt : (pre.length : Int) < c.items.length := by rw [← hp]; simp; omega
    have hlen := len_filter (fun k => !decide (k.object = o)) pre _ _ hp hn
    have hle : (pre.filter fun k => !decide (k.object = o)).length ≤ pre.length := List.length_filter_le _ _
    have hT : x.object = o → ∀ lv, lv = 1 ∨ lv = 2 → _ := fun e lv hlv => ih (pre ++ [x]) lv (v + 1) (by rw [← hp]; simp) hlv (by rw [hv, List.filter_append]; simp [e]; omega)
    have hF : ¬ x.object = o → _ := fun e => ih (pre ++ [x]) 2 v (by rw [← hp]; simp) (.inr rfl) (by rw [hv, List.filter_append]; simp [e]; omega)
    simp only [List.length_append, List.length_cons, List.length_nil, List.filter_append] at hT hF
    refine go_loop fun L hL => ?_
    clear ih
    have hv1 : 0 ≤ v ∧ v ≤ 1000000 := by omega
    obtain ⟨hv1, hv2⟩ := hv1
    clear hv
    rcases hlv with rfl | rfl <;>
    · simp -implicitDefEqProofs (disch := omega) only [i35_0, i35_1, i35_2, i35_3, i35_4, i35_5, i35_6, i35_7, i35_8, i35_9, i35_10, i35_11, i35_12, i35_K0, i35, i35_L0, hlt, hget, Kept.enc, rowsK_len, Cache.enc, zM, zS, State.step, State.pure, State.pure.capsOf, arrGo, State.ghosts, State.ghost, State.srcRows, State.arrRows, State.pure.fillC, State.bound, State.rd, takeC, args0, State.res, State.res1, State.resS, State.resL, normS, AC.pure, splice, ↓reduceIte, Nat.reduceEqDiff, Nat.reduceLT, Nat.reduceLeDiff, Nat.reduceAdd, Nat.reduceSub, Nat.reduceMul, Int.reduceLE, Int.reduceLT, Int.reduceToNat, Int.reduceEq, Int.reduceNe, Int.reduceAdd, Int.reduceMul, Int.reducePow, Int.reduceNeg, Nat.reduceBEq, Int.reduceBNe, Int.reduceBEq, reduceCtorEq, ne_eq, IntWalk.iteOmega]
      refine gCond_d (fun e e' => ?_) (fun e e' => ?_)
      · simp -implicitDefEqProofs (disch := omega) only [i35_0, i35_1, i35_2, i35_3, i35_4, i35_5, i35_6, i35_7, i35_8, i35_9, i35_10, i35_11, i35_12, i35_K0, i35, i35_L0, hlt, hget, Kept.enc, rowsK_len, Cache.enc, zM, zS, State.step, State.pure, State.pure.capsOf, arrGo, State.ghosts, State.ghost, State.srcRows, State.arrRows, State.pure.fillC, State.bound, State.rd, takeC, args0, State.res, State.res1, State.resS, State.resL, normS, AC.pure, splice, ↓reduceIte, Nat.reduceEqDiff, Nat.reduceLT, Nat.reduceLeDiff, Nat.reduceAdd, Nat.reduceSub, Nat.reduceMul, Int.reduceLE, Int.reduceLT, Int.reduceToNat, Int.reduceEq, Int.reduceNe, Int.reduceAdd, Int.reduceMul, Int.reducePow, Int.reduceNeg, Nat.reduceBEq, Int.reduceBNe, Int.reduceBEq, reduceCtorEq, ne_eq, IntWalk.iteOmega]
        rw [hL]
        have h1 := hT e 1 (.inl rfl)
        have h2 := hT e 2 (.inr rfl)
        simp only [List.filter_cons, e, decide_true, Bool.not_true, List.filter_nil, List.append_nil, Bool.false_eq_true, if_false] at h1 h2
        first | exact h1 | exact h2
      · simp -implicitDefEqProofs (disch := omega) only [i35_0, i35_1, i35_2, i35_3, i35_4, i35_5, i35_6, i35_7, i35_8, i35_9, i35_10, i35_11, i35_12, i35_K0, i35, i35_L0, hlt, hget, Kept.enc, rowsK_len, Cache.enc, zM, zS, State.step, State.pure, State.pure.capsOf, arrGo, State.ghosts, State.ghost, State.srcRows, State.arrRows, State.pure.fillC, State.bound, State.rd, takeC, args0, State.res, State.res1, State.resS, State.resL, normS, AC.pure, splice, ↓reduceIte, Nat.reduceEqDiff, Nat.reduceLT, Nat.reduceLeDiff, Nat.reduceAdd, Nat.reduceSub, Nat.reduceMul, Int.reduceLE, Int.reduceLT, Int.reduceToNat, Int.reduceEq, Int.reduceNe, Int.reduceAdd, Int.reduceMul, Int.reducePow, Int.reduceNeg, Nat.reduceBEq, Int.reduceBNe, Int.reduceBEq, reduceCtorEq, ne_eq, IntWalk.iteOmega]
        rw [hL]
        have := hF e
        simp only [List.filter_cons, e, decide_false, Bool.not_false, if_true, List.filter_nil, ← rowsK_snoc] at this
        exact this
def refForget (c : Cache) (o : Int) : Made := ⟨(forget c o).1, [], ⟨#[]⟩, (forget c o).2.1, (forget c o).2.2⟩
theorem T35 (c : Cache) (o : Int) (hc : c.Ok) : RunsTo Try.prog 35 [.agg c.enc, .c (.int .i64 o)] [] (.agg (refForget c o).enc) [] := by
  have h13 := T13 c hc
  have hn := hc.few
  have hL := fun K hK => L35 c o hn K hK c.items [] 1 0 rfl (.inl rfl) (by simp)
  clear hc
  refine nrm (Q35 (by simp) ?_)
  simp -implicitDefEqProofs (disch := omega) only [i35_0, i35_1, i35_2, i35_3, i35_4, i35_5, i35_6, i35_7, i35_8, i35_9, i35_10, i35_11, i35_12, i35, Cache.enc, zS, State.step, State.pure, State.pure.capsOf, arrGo, State.ghosts, State.ghost, State.srcRows, State.arrRows, State.pure.fillC, State.bound, State.rd, takeC, args0, State.res, State.res1, State.resS, State.resL, normS, AC.pure, splice, ↓reduceIte, Nat.reduceEqDiff, Nat.reduceLT, Nat.reduceLeDiff, Nat.reduceAdd, Nat.reduceSub, Nat.reduceMul, Int.reduceLE, Int.reduceLT, Int.reduceToNat, Int.reduceEq, Int.reduceNe, Int.reduceAdd, Int.reduceMul, Int.reducePow, Int.reduceNeg, Nat.reduceBEq, Int.reduceBNe, Int.reduceBEq, reduceCtorEq, ne_eq, IntWalk.iteOmega]
  refine call_pure h13 rfl rfl ?_
  simp -implicitDefEqProofs (disch := omega) only [i35_0, i35_1, i35_2, i35_3, i35_4, i35_5, i35_6, i35_7, i35_8, i35_9, i35_10, i35_11, i35_12, i35, zS, State.step, State.pure, State.pure.capsOf, arrGo, State.ghosts, State.ghost, State.srcRows, State.arrRows, State.pure.fillC, State.bound, State.rd, takeC, args0, State.res, State.res1, State.resS, State.resL, normS, AC.pure, splice, ↓reduceIte, Nat.reduceEqDiff, Nat.reduceLT, Nat.reduceLeDiff, Nat.reduceAdd, Nat.reduceSub, Nat.reduceMul, Int.reduceLE, Int.reduceLT, Int.reduceToNat, Int.reduceEq, Int.reduceNe, Int.reduceAdd, Int.reduceMul, Int.reducePow, Int.reduceNeg, Nat.reduceBEq, Int.reduceBNe, Int.reduceBEq, reduceCtorEq, ne_eq, IntWalk.iteOmega]
  refine gCond_d (fun c1 c1' => ?_) (fun c1 c1' => ?_)
  · have e : forget c o = (⟨c.room, c.now, c.items.filter fun k => !decide (k.object = o)⟩, (c.items.length : Int) - (c.items.filter fun k => !decide (k.object = o)).length, 0) := by rw [forget, if_neg (by simpa using c1)]
    simp -implicitDefEqProofs (disch := omega) only [i35_0, i35_1, i35_2, i35_3, i35_4, i35_5, i35_6, i35_7, i35_8, i35_9, i35_10, i35_11, i35_12, i35, zS, State.step, State.pure, State.pure.capsOf, arrGo, State.ghosts, State.ghost, State.srcRows, State.arrRows, State.pure.fillC, State.bound, State.rd, takeC, args0, State.res, State.res1, State.resS, State.resL, normS, AC.pure, splice, ↓reduceIte, Nat.reduceEqDiff, Nat.reduceLT, Nat.reduceLeDiff, Nat.reduceAdd, Nat.reduceSub, Nat.reduceMul, Int.reduceLE, Int.reduceLT, Int.reduceToNat, Int.reduceEq, Int.reduceNe, Int.reduceAdd, Int.reduceMul, Int.reducePow, Int.reduceNeg, Nat.reduceBEq, Int.reduceBNe, Int.reduceBEq, reduceCtorEq, ne_eq, IntWalk.iteOmega]
    refine hL _ fun j lv hlv => ?_
    rcases hlv with rfl | rfl <;>
    · simp -implicitDefEqProofs (disch := omega) only [i35_0, i35_1, i35_2, i35_3, i35_4, i35_5, i35_6, i35_7, i35_8, i35_9, i35_10, i35_11, i35_12, i35_K0, i35, zM, zS, State.step, State.pure, State.pure.capsOf, arrGo, State.ghosts, State.ghost, State.srcRows, State.arrRows, State.pure.fillC, State.bound, State.rd, takeC, args0, State.res, State.res1, State.resS, State.resL, normS, AC.pure, splice, ↓reduceIte, Nat.reduceEqDiff, Nat.reduceLT, Nat.reduceLeDiff, Nat.reduceAdd, Nat.reduceSub, Nat.reduceMul, Int.reduceLE, Int.reduceLT, Int.reduceToNat, Int.reduceEq, Int.reduceNe, Int.reduceAdd, Int.reduceMul, Int.reducePow, Int.reduceNeg, Nat.reduceBEq, Int.reduceBNe, Int.reduceBEq, reduceCtorEq, ne_eq, IntWalk.iteOmega]
      (refine fin_pureN ?_ not_x_r; simp only [rs35, zS, State.step, State.pure, State.pure.capsOf, arrGo, State.ghosts, State.ghost, State.srcRows, State.arrRows, State.pure.fillC, State.bound, State.rd, takeC, args0, State.res, State.res1, State.resS, State.resL, normS, AC.pure, splice, ↓reduceIte, Nat.reduceEqDiff, Nat.reduceLT, Nat.reduceLeDiff, Nat.reduceAdd, Nat.reduceSub, Nat.reduceMul, Int.reduceLE, Int.reduceLT, Int.reduceToNat, Int.reduceEq, Int.reduceNe, Int.reduceAdd, Int.reduceMul, Int.reducePow, Int.reduceNeg, Nat.reduceBEq, Int.reduceBNe, Int.reduceBEq, reduceCtorEq, ne_eq, IntWalk.iteOmega]; refine ⟨_, rfl, rfl, ?_⟩)
      rw [refForget, e]; rfl
  · have e : forget c o = (c, 0, check c) := by rw [forget, if_pos c1]
    simp -implicitDefEqProofs (disch := omega) only [i35_0, i35_1, i35_2, i35_3, i35_4, i35_5, i35_6, i35_7, i35_8, i35_9, i35_10, i35_11, i35_12, i35, zS, State.step, State.pure, State.pure.capsOf, arrGo, State.ghosts, State.ghost, State.srcRows, State.arrRows, State.pure.fillC, State.bound, State.rd, takeC, args0, State.res, State.res1, State.resS, State.resL, normS, AC.pure, splice, ↓reduceIte, Nat.reduceEqDiff, Nat.reduceLT, Nat.reduceLeDiff, Nat.reduceAdd, Nat.reduceSub, Nat.reduceMul, Int.reduceLE, Int.reduceLT, Int.reduceToNat, Int.reduceEq, Int.reduceNe, Int.reduceAdd, Int.reduceMul, Int.reducePow, Int.reduceNeg, Nat.reduceBEq, Int.reduceBNe, Int.reduceBEq, reduceCtorEq, ne_eq, IntWalk.iteOmega]
    (refine fin_pureN ?_ not_x_r; simp only [rs35, zS, State.step, State.pure, State.pure.capsOf, arrGo, State.ghosts, State.ghost, State.srcRows, State.arrRows, State.pure.fillC, State.bound, State.rd, takeC, args0, State.res, State.res1, State.resS, State.resL, normS, AC.pure, splice, ↓reduceIte, Nat.reduceEqDiff, Nat.reduceLT, Nat.reduceLeDiff, Nat.reduceAdd, Nat.reduceSub, Nat.reduceMul, Int.reduceLE, Int.reduceLT, Int.reduceToNat, Int.reduceEq, Int.reduceNe, Int.reduceAdd, Int.reduceMul, Int.reducePow, Int.reduceNeg, Nat.reduceBEq, Int.reduceBNe, Int.reduceBEq, reduceCtorEq, ne_eq, IntWalk.iteOmega]; refine ⟨_, rfl, rfl, ?_⟩)
    rw [refForget, e]; rfl
end Go.Proofs.Ytimapebigcmbmaa

set_option linter.unusedVariables false
set_option linter.unusedSimpArgs false
namespace Go.Proofs.Ytimapebigcmbmaa
open Go Go.AI Go.Proofs

theorem xsh_sl (a b c d q : Nat) : AC.share (.sl a b c d q) = .sl a b c d q := rfl
theorem xsh_aptr (a b c d : Nat) : AC.share (.aptr a b c d) = .aptr a b c d := rfl
def get (c : Cache) (o ch fresh : Int) : ByteArray × Cache × Int :=
  if check c ≠ 0 then (⟨#[]⟩, c, check c) else match idx o ch c.items with
    | none => (⟨#[]⟩, c, 8)
    | some i => match c.items[i]? with
      | none => (⟨#[]⟩, c, 8)
      | some x => if fresh < c.now - x.since then (⟨#[]⟩, c, 15) else (x.bytes, ⟨c.room, c.now, c.items.set i { x with used := c.now }⟩, 0)
theorem set_rows (l : List Kept) (R : List (List AC)) (i : Nat) (x : Kept) (h : i < l.length) : ((rowsK l ++ R).set i x.enc).take l.length = rowsK (l.set i x) := by
  rw [List.set_append_left _ _ (by rw [rowsK_len]; exact h), List.take_append_of_le_length (by simp [rowsK_len]), List.take_of_length_le (by simp [rowsK_len])]
  simp [rowsK, List.map_set]
theorem keyOf_ok (o c : Int) (ho : I64 o) (hc : I64 c) : (keyOf o c).Ok := by
  unfold I64 at *
  constructor <;> simp only [keyOf, I64] <;> first | omega | decide
theorem T23 (c : Cache) (o ch fresh : Int) (hc : c.Ok) (ho : I64 o) (hch : I64 ch) : RunsTo Try.prog 23 [.agg c.enc, .c (.int .i64 o), .c (.int .i64 ch), .c (.int .i64 fresh)] [] (.tup [.c (.str (get c o ch fresh).1), .agg (get c o ch fresh).2.1.enc, .c (.int .i64 (get c o ch fresh).2.2)]) [] := by
  have h12 := T12 c hc
  have h36 := T36 c o ch hc
  have hn := hc.few
  have hfi := fun hg : Good c => found_idx (l := c.items) (t := keyOf o ch) hc.items (keyOf_ok o ch ho hch) (fun k hk => (hg.right k hk).1.small) hg.sorted
  have hcl := fun H => Q37c c.items hn H
  refine R23 (by simp) ?_
  generalize hF : FinQ rs23 [] _ = F
  simp -implicitDefEqProofs (disch := omega) only [i23_0, i23_1, i23_2, i23_3, i23_4, i23_5, i23_6, i23_7, i23_8, i23_9, i23_10, i23, Cache.enc, zS, State.step, State.pure, State.pure.capsOf, arrGo, State.ghosts, State.ghost, State.srcRows, State.arrRows, State.pure.fillC, State.bound, State.rd, takeC, args0, State.res, State.res1, State.resS, State.resL, normS, AC.pure, splice, ↓reduceIte, Nat.reduceEqDiff, Nat.reduceLT, Nat.reduceLeDiff, Nat.reduceAdd, Nat.reduceSub, Nat.reduceMul, Int.reduceLE, Int.reduceLT, Int.reduceToNat, Int.reduceEq, Int.reduceNe, Int.reduceAdd, Int.reduceMul, Int.reducePow, Int.reduceNeg, Nat.reduceBEq, Int.reduceBNe, Int.reduceBEq, reduceCtorEq, ne_eq, IntWalk.iteOmega]
  refine call_pure h12 rfl rfl ?_
  simp -implicitDefEqProofs (disch := omega) only [zS, State.step, State.pure, State.pure.capsOf, arrGo, State.ghosts, State.ghost, State.srcRows, State.arrRows, State.pure.fillC, State.bound, State.rd, takeC, args0, State.res, State.res1, State.resS, State.resL, normS, AC.pure, splice, ↓reduceIte, Nat.reduceEqDiff, Nat.reduceLT, Nat.reduceLeDiff, Nat.reduceAdd, Nat.reduceSub, Nat.reduceMul, Int.reduceLE, Int.reduceLT, Int.reduceToNat, Int.reduceEq, Int.reduceNe, Int.reduceAdd, Int.reduceMul, Int.reducePow, Int.reduceNeg, Nat.reduceBEq, Int.reduceBNe, Int.reduceBEq, reduceCtorEq, ne_eq, IntWalk.iteOmega]
  refine gCond_d (fun c1 c1' => ?_) (fun c1 c1' => ?_)
  · have hg := check_good c1
    obtain ⟨hf1, hf2⟩ := hfi hg
    simp only [keyOf] at hf1 hf2
    change foundB c.items (keyOf o ch) = _ at hf1
    change ∀ i, _ → found c.items (keyOf o ch) = i at hf2
    simp -implicitDefEqProofs (disch := omega) only [i23_0, i23_1, i23_2, i23_3, i23_4, i23_5, i23_6, i23_7, i23_8, i23_9, i23_10, i23, zS, State.step, State.pure, State.pure.capsOf, arrGo, State.ghosts, State.ghost, State.srcRows, State.arrRows, State.pure.fillC, State.bound, State.rd, takeC, args0, State.res, State.res1, State.resS, State.resL, normS, AC.pure, splice, ↓reduceIte, Nat.reduceEqDiff, Nat.reduceLT, Nat.reduceLeDiff, Nat.reduceAdd, Nat.reduceSub, Nat.reduceMul, Int.reduceLE, Int.reduceLT, Int.reduceToNat, Int.reduceEq, Int.reduceNe, Int.reduceAdd, Int.reduceMul, Int.reducePow, Int.reduceNeg, Nat.reduceBEq, Int.reduceBNe, Int.reduceBEq, reduceCtorEq, ne_eq, IntWalk.iteOmega]
    refine call_pure h36 rfl rfl ?_
    cases hi : idx o ch c.items with
    | none =>
      have e : get c o ch fresh = (⟨#[]⟩, c, 8) := by rw [get, if_neg (by simpa using c1), hi]
      rw [hi] at hf1
      simp -implicitDefEqProofs (disch := omega) only [i23_0, i23_1, i23_2, i23_3, i23_4, i23_5, i23_6, i23_7, i23_8, i23_9, i23_10, i23, hf1, Option.isSome_none, zS, State.step, State.pure, State.pure.capsOf, arrGo, State.ghosts, State.ghost, State.srcRows, State.arrRows, State.pure.fillC, State.bound, State.rd, takeC, args0, State.res, State.res1, State.resS, State.resL, normS, AC.pure, splice, ↓reduceIte, Nat.reduceEqDiff, Nat.reduceLT, Nat.reduceLeDiff, Nat.reduceAdd, Nat.reduceSub, Nat.reduceMul, Int.reduceLE, Int.reduceLT, Int.reduceToNat, Int.reduceEq, Int.reduceNe, Int.reduceAdd, Int.reduceMul, Int.reducePow, Int.reduceNeg, Nat.reduceBEq, Int.reduceBNe, Int.reduceBEq, reduceCtorEq, ne_eq, IntWalk.iteOmega]
      subst hF
      (refine fin_pure rfl ?_ not_x_r; simp only [rs23, e, zS, State.step, State.pure, State.pure.capsOf, arrGo, State.ghosts, State.ghost, State.srcRows, State.arrRows, State.pure.fillC, State.bound, State.rd, takeC, args0, State.res, State.res1, State.resS, State.resL, normS, AC.pure, splice, ↓reduceIte, Nat.reduceEqDiff, Nat.reduceLT, Nat.reduceLeDiff, Nat.reduceAdd, Nat.reduceSub, Nat.reduceMul, Int.reduceLE, Int.reduceLT, Int.reduceToNat, Int.reduceEq, Int.reduceNe, Int.reduceAdd, Int.reduceMul, Int.reducePow, Int.reduceNeg, Nat.reduceBEq, Int.reduceBNe, Int.reduceBEq, reduceCtorEq, ne_eq, IntWalk.iteOmega])
      rfl
    | some i =>
      obtain ⟨x, hx, hkey⟩ := idx_some hi
      have hx' : (rowsK c.items)[i]? = some x.enc := by simp [rowsK, hx]
      have hil : i < c.items.length := (List.getElem?_eq_some_iff.1 hx).1
      have hr := hg.right x (List.mem_of_getElem? hx)
      have hnow := hg.now
      have hs0 : 0 ≤ x.since ∧ x.since ≤ c.now := by have := hr.1; unfold Right at this; omega
      obtain ⟨hs1, hs2⟩ := hs0
      obtain ⟨hn1, hn2⟩ := hnow
      rw [hi] at hf1
      have hf3 := hf2 i hi
      clear hf2 hfi hr hg
      simp -implicitDefEqProofs (disch := omega) only [i23_0, i23_1, i23_2, i23_3, i23_4, i23_5, i23_6, i23_7, i23_8, i23_9, i23_10, i23, hf1, hf3, Option.isSome_some, hx', Kept.enc, zS, State.step, State.pure, State.pure.capsOf, arrGo, State.ghosts, State.ghost, State.srcRows, State.arrRows, State.pure.fillC, State.bound, State.rd, takeC, args0, State.res, State.res1, State.resS, State.resL, normS, AC.pure, splice, ↓reduceIte, Nat.reduceEqDiff, Nat.reduceLT, Nat.reduceLeDiff, Nat.reduceAdd, Nat.reduceSub, Nat.reduceMul, Int.reduceLE, Int.reduceLT, Int.reduceToNat, Int.reduceEq, Int.reduceNe, Int.reduceAdd, Int.reduceMul, Int.reducePow, Int.reduceNeg, Nat.reduceBEq, Int.reduceBNe, Int.reduceBEq, reduceCtorEq, ne_eq, IntWalk.iteOmega]
      refine gCond_d (fun c2 c2' => ?_) (fun c2 c2' => ?_)
      · have e : get c o ch fresh = (⟨#[]⟩, c, 15) := by rw [get, if_neg (by simpa using c1), hi]; simp only [hx]; rw [if_pos c2]
        simp -implicitDefEqProofs (disch := omega) only [i23_0, i23_1, i23_2, i23_3, i23_4, i23_5, i23_6, i23_7, i23_8, i23_9, i23_10, i23, zS, State.step, State.pure, State.pure.capsOf, arrGo, State.ghosts, State.ghost, State.srcRows, State.arrRows, State.pure.fillC, State.bound, State.rd, takeC, args0, State.res, State.res1, State.resS, State.resL, normS, AC.pure, splice, ↓reduceIte, Nat.reduceEqDiff, Nat.reduceLT, Nat.reduceLeDiff, Nat.reduceAdd, Nat.reduceSub, Nat.reduceMul, Int.reduceLE, Int.reduceLT, Int.reduceToNat, Int.reduceEq, Int.reduceNe, Int.reduceAdd, Int.reduceMul, Int.reducePow, Int.reduceNeg, Nat.reduceBEq, Int.reduceBNe, Int.reduceBEq, reduceCtorEq, ne_eq, IntWalk.iteOmega]
        subst hF
        (refine fin_pure rfl ?_ not_x_r; simp only [rs23, e, zS, State.step, State.pure, State.pure.capsOf, arrGo, State.ghosts, State.ghost, State.srcRows, State.arrRows, State.pure.fillC, State.bound, State.rd, takeC, args0, State.res, State.res1, State.resS, State.resL, normS, AC.pure, splice, ↓reduceIte, Nat.reduceEqDiff, Nat.reduceLT, Nat.reduceLeDiff, Nat.reduceAdd, Nat.reduceSub, Nat.reduceMul, Int.reduceLE, Int.reduceLT, Int.reduceToNat, Int.reduceEq, Int.reduceNe, Int.reduceAdd, Int.reduceMul, Int.reducePow, Int.reduceNeg, Nat.reduceBEq, Int.reduceBNe, Int.reduceBEq, reduceCtorEq, ne_eq, IntWalk.iteOmega])
        rfl
      · have e : get c o ch fresh = (x.bytes, ⟨c.room, c.now, c.items.set i { x with used := c.now }⟩, 0) := by rw [get, if_neg (by simpa using c1), hi]; simp only [hx]; rw [if_neg c2]
        have hg1 : ∀ R, (rowsK c.items ++ R)[i]? = some x.enc := fun R => by rw [List.getElem?_append_left (by rw [rowsK_len]; exact hil), hx']
        have hg2 := fun R => set_rows c.items R i { x with used := c.now } hil
        have hg3 : ∀ R y, ((rowsK c.items ++ R).set i y).length = c.items.length + R.length := fun R y => by simp [rowsK_len]
        have q1 : ∀ N, (c.items.length ≤ c.items.length + N) = True := fun N => eq_true (by omega)
        have q2 : ((i : Int) < (c.items.length : Int)) = True := eq_true (by omega)
        have hg4 : (rowsK (c.items.set i { x with used := c.now }))[i]? = some (Kept.enc { x with used := c.now }) := by simp [rowsK, hil]
        simp only [Kept.enc] at hg2 hg4
        simp -implicitDefEqProofs (disch := omega) only [i23_0, i23_1, i23_2, i23_3, i23_4, i23_5, i23_6, i23_7, i23_8, i23_9, i23_10, i23, zS, State.step, State.pure, State.pure.capsOf, arrGo, State.ghosts, State.ghost, State.srcRows, State.arrRows, State.pure.fillC, State.bound, State.rd, takeC, args0, State.res, State.res1, State.resS, State.resL, normS, AC.pure, splice, ↓reduceIte, Nat.reduceEqDiff, Nat.reduceLT, Nat.reduceLeDiff, Nat.reduceAdd, Nat.reduceSub, Nat.reduceMul, Int.reduceLE, Int.reduceLT, Int.reduceToNat, Int.reduceEq, Int.reduceNe, Int.reduceAdd, Int.reduceMul, Int.reducePow, Int.reduceNeg, Nat.reduceBEq, Int.reduceBNe, Int.reduceBEq, reduceCtorEq, ne_eq, IntWalk.iteOmega]
        refine ⟨?_, ?_⟩
        · simp -implicitDefEqProofs (disch := omega) only [g_goTB, zS, State.step, State.pure, State.pure.capsOf, arrGo, State.ghosts, State.ghost, State.srcRows, State.arrRows, State.pure.fillC, State.bound, State.rd, takeC, args0, State.res, State.res1, State.resS, State.resL, normS, AC.pure, splice, ↓reduceIte, Nat.reduceEqDiff, Nat.reduceLT, Nat.reduceLeDiff, Nat.reduceAdd, Nat.reduceSub, Nat.reduceMul, Int.reduceLE, Int.reduceLT, Int.reduceToNat, Int.reduceEq, Int.reduceNe, Int.reduceAdd, Int.reduceMul, Int.reducePow, Int.reduceNeg, Nat.reduceBEq, Int.reduceBNe, Int.reduceBEq, reduceCtorEq, ne_eq, IntWalk.iteOmega]
          refine call_Q (by decide) (hcl _) fun r H' hq => ?_
          rcases hq with ⟨h0, _, _⟩ | ⟨_, extra, rfl, rfl⟩
          · rw [h0] at hil; simp at hil
          · refine ⟨fun _ => HSim.app _ _, ?_⟩
            simp -implicitDefEqProofs (disch := omega) only [i23_0, i23_1, i23_2, i23_3, i23_4, i23_5, i23_6, i23_7, i23_8, i23_9, i23_10, i23, hg1, hg2, hg3, Kept.enc, List.length_replicate, q1, q2, hg4, xsh_sl, xsh_aptr, zS, State.step, State.pure, State.pure.capsOf, arrGo, State.ghosts, State.ghost, State.srcRows, State.arrRows, State.pure.fillC, State.bound, State.rd, takeC, args0, State.res, State.res1, State.resS, State.resL, normS, AC.pure, splice, ↓reduceIte, Nat.reduceEqDiff, Nat.reduceLT, Nat.reduceLeDiff, Nat.reduceAdd, Nat.reduceSub, Nat.reduceMul, Int.reduceLE, Int.reduceLT, Int.reduceToNat, Int.reduceEq, Int.reduceNe, Int.reduceAdd, Int.reduceMul, Int.reducePow, Int.reduceNeg, Nat.reduceBEq, Int.reduceBNe, Int.reduceBEq, reduceCtorEq, ne_eq, IntWalk.iteOmega]
            subst hF
            (refine fin_pure rfl ?_ not_x_r; simp only [rs23, e, zS, State.step, State.pure, State.pure.capsOf, arrGo, State.ghosts, State.ghost, State.srcRows, State.arrRows, State.pure.fillC, State.bound, State.rd, takeC, args0, State.res, State.res1, State.resS, State.resL, normS, AC.pure, splice, ↓reduceIte, Nat.reduceEqDiff, Nat.reduceLT, Nat.reduceLeDiff, Nat.reduceAdd, Nat.reduceSub, Nat.reduceMul, Int.reduceLE, Int.reduceLT, Int.reduceToNat, Int.reduceEq, Int.reduceNe, Int.reduceAdd, Int.reduceMul, Int.reducePow, Int.reduceNeg, Nat.reduceBEq, Int.reduceBNe, Int.reduceBEq, reduceCtorEq, ne_eq, IntWalk.iteOmega])
            rfl
        · simp -implicitDefEqProofs (disch := omega) only [g_goTB, zS, State.step, State.pure, State.pure.capsOf, arrGo, State.ghosts, State.ghost, State.srcRows, State.arrRows, State.pure.fillC, State.bound, State.rd, takeC, args0, State.res, State.res1, State.resS, State.resL, normS, AC.pure, splice, ↓reduceIte, Nat.reduceEqDiff, Nat.reduceLT, Nat.reduceLeDiff, Nat.reduceAdd, Nat.reduceSub, Nat.reduceMul, Int.reduceLE, Int.reduceLT, Int.reduceToNat, Int.reduceEq, Int.reduceNe, Int.reduceAdd, Int.reduceMul, Int.reducePow, Int.reduceNeg, Nat.reduceBEq, Int.reduceBNe, Int.reduceBEq, reduceCtorEq, ne_eq, IntWalk.iteOmega]
          refine call_Q (by decide) (hcl _) fun r H' hq => ?_
          rcases hq with ⟨h0, _, _⟩ | ⟨_, extra, rfl, rfl⟩
          · rw [h0] at hil; simp at hil
          · refine ⟨fun _ => HSim.app _ _, ?_⟩
            simp -implicitDefEqProofs (disch := omega) only [i23_0, i23_1, i23_2, i23_3, i23_4, i23_5, i23_6, i23_7, i23_8, i23_9, i23_10, i23, hg1, hg2, hg3, Kept.enc, List.length_replicate, q1, q2, hg4, xsh_sl, xsh_aptr, zS, State.step, State.pure, State.pure.capsOf, arrGo, State.ghosts, State.ghost, State.srcRows, State.arrRows, State.pure.fillC, State.bound, State.rd, takeC, args0, State.res, State.res1, State.resS, State.resL, normS, AC.pure, splice, ↓reduceIte, Nat.reduceEqDiff, Nat.reduceLT, Nat.reduceLeDiff, Nat.reduceAdd, Nat.reduceSub, Nat.reduceMul, Int.reduceLE, Int.reduceLT, Int.reduceToNat, Int.reduceEq, Int.reduceNe, Int.reduceAdd, Int.reduceMul, Int.reducePow, Int.reduceNeg, Nat.reduceBEq, Int.reduceBNe, Int.reduceBEq, reduceCtorEq, ne_eq, IntWalk.iteOmega]
            subst hF
            (refine fin_pure rfl ?_ not_x_r; simp only [rs23, e, zS, State.step, State.pure, State.pure.capsOf, arrGo, State.ghosts, State.ghost, State.srcRows, State.arrRows, State.pure.fillC, State.bound, State.rd, takeC, args0, State.res, State.res1, State.resS, State.resL, normS, AC.pure, splice, ↓reduceIte, Nat.reduceEqDiff, Nat.reduceLT, Nat.reduceLeDiff, Nat.reduceAdd, Nat.reduceSub, Nat.reduceMul, Int.reduceLE, Int.reduceLT, Int.reduceToNat, Int.reduceEq, Int.reduceNe, Int.reduceAdd, Int.reduceMul, Int.reducePow, Int.reduceNeg, Nat.reduceBEq, Int.reduceBNe, Int.reduceBEq, reduceCtorEq, ne_eq, IntWalk.iteOmega])
            rfl
  · have e : get c o ch fresh = (⟨#[]⟩, c, check c) := by rw [get, if_pos c1]
    simp -implicitDefEqProofs (disch := omega) only [i23_0, i23_1, i23_2, i23_3, i23_4, i23_5, i23_6, i23_7, i23_8, i23_9, i23_10, i23, zS, State.step, State.pure, State.pure.capsOf, arrGo, State.ghosts, State.ghost, State.srcRows, State.arrRows, State.pure.fillC, State.bound, State.rd, takeC, args0, State.res, State.res1, State.resS, State.resL, normS, AC.pure, splice, ↓reduceIte, Nat.reduceEqDiff, Nat.reduceLT, Nat.reduceLeDiff, Nat.reduceAdd, Nat.reduceSub, Nat.reduceMul, Int.reduceLE, Int.reduceLT, Int.reduceToNat, Int.reduceEq, Int.reduceNe, Int.reduceAdd, Int.reduceMul, Int.reducePow, Int.reduceNeg, Nat.reduceBEq, Int.reduceBNe, Int.reduceBEq, reduceCtorEq, ne_eq, IntWalk.iteOmega]
    subst hF
    (refine fin_pure rfl ?_ not_x_r; simp only [rs23, e, zS, State.step, State.pure, State.pure.capsOf, arrGo, State.ghosts, State.ghost, State.srcRows, State.arrRows, State.pure.fillC, State.bound, State.rd, takeC, args0, State.res, State.res1, State.resS, State.resL, normS, AC.pure, splice, ↓reduceIte, Nat.reduceEqDiff, Nat.reduceLT, Nat.reduceLeDiff, Nat.reduceAdd, Nat.reduceSub, Nat.reduceMul, Int.reduceLE, Int.reduceLT, Int.reduceToNat, Int.reduceEq, Int.reduceNe, Int.reduceAdd, Int.reduceMul, Int.reducePow, Int.reduceNeg, Nat.reduceBEq, Int.reduceBNe, Int.reduceBEq, reduceCtorEq, ne_eq, IntWalk.iteOmega])
    rfl
def refGet (c : Cache) (o ch fresh : Int) : Made := ⟨(get c o ch fresh).2.1, [], (get c o ch fresh).1, 0, (get c o ch fresh).2.2⟩
set_option maxHeartbeats 2000000 in
theorem T34 (c : Cache) (o ch fresh : Int) (hc : c.Ok) : RunsTo Try.prog 34 [.agg c.enc, .c (.int .i64 o), .c (.int .i64 ch), .c (.int .i64 fresh)] [] (.agg (refGet c o ch fresh).enc) [] := by
  have h13 := T13 c hc
  have hn := hc.few
  have h19 := T19 c.items hn o ch
  refine nrm (Q34 (by simp) ?_)
  generalize hF : FinQ rs34 [] _ = F
  simp -implicitDefEqProofs (disch := omega) only [i34_0, i34_1, i34_2, i34_3, i34_4, i34_5, i34_6, i34_7, i34_8, i34_9, i34_10, i34, Cache.enc, zS, State.step, State.pure, State.pure.capsOf, arrGo, State.ghosts, State.ghost, State.srcRows, State.arrRows, State.pure.fillC, State.bound, State.rd, takeC, args0, State.res, State.res1, State.resS, State.resL, normS, AC.pure, splice, ↓reduceIte, Nat.reduceEqDiff, Nat.reduceLT, Nat.reduceLeDiff, Nat.reduceAdd, Nat.reduceSub, Nat.reduceMul, Int.reduceLE, Int.reduceLT, Int.reduceToNat, Int.reduceEq, Int.reduceNe, Int.reduceAdd, Int.reduceMul, Int.reducePow, Int.reduceNeg, Nat.reduceBEq, Int.reduceBNe, Int.reduceBEq, reduceCtorEq, ne_eq, IntWalk.iteOmega]
  refine call_pure h13 rfl rfl ?_
  simp -implicitDefEqProofs (disch := omega) only [i34_0, i34_1, i34_2, i34_3, i34_4, i34_5, i34_6, i34_7, i34_8, i34_9, i34_10, i34, zS, State.step, State.pure, State.pure.capsOf, arrGo, State.ghosts, State.ghost, State.srcRows, State.arrRows, State.pure.fillC, State.bound, State.rd, takeC, args0, State.res, State.res1, State.resS, State.resL, normS, AC.pure, splice, ↓reduceIte, Nat.reduceEqDiff, Nat.reduceLT, Nat.reduceLeDiff, Nat.reduceAdd, Nat.reduceSub, Nat.reduceMul, Int.reduceLE, Int.reduceLT, Int.reduceToNat, Int.reduceEq, Int.reduceNe, Int.reduceAdd, Int.reduceMul, Int.reducePow, Int.reduceNeg, Nat.reduceBEq, Int.reduceBNe, Int.reduceBEq, reduceCtorEq, ne_eq, IntWalk.iteOmega]
  refine gCond_d (fun c1 c1' => ?_) (fun c1 c1' => ?_)
  · have hg := check_good c1
    simp -implicitDefEqProofs (disch := omega) only [i34_0, i34_1, i34_2, i34_3, i34_4, i34_5, i34_6, i34_7, i34_8, i34_9, i34_10, i34, zS, State.step, State.pure, State.pure.capsOf, arrGo, State.ghosts, State.ghost, State.srcRows, State.arrRows, State.pure.fillC, State.bound, State.rd, takeC, args0, State.res, State.res1, State.resS, State.resL, normS, AC.pure, splice, ↓reduceIte, Nat.reduceEqDiff, Nat.reduceLT, Nat.reduceLeDiff, Nat.reduceAdd, Nat.reduceSub, Nat.reduceMul, Int.reduceLE, Int.reduceLT, Int.reduceToNat, Int.reduceEq, Int.reduceNe, Int.reduceAdd, Int.reduceMul, Int.reducePow, Int.reduceNeg, Nat.reduceBEq, Int.reduceBNe, Int.reduceBEq, reduceCtorEq, ne_eq, IntWalk.iteOmega]
    refine call_pure h19 rfl rfl ?_
    cases hi : idx o ch c.items with
    | none =>
      have e : get c o ch fresh = (⟨#[]⟩, c, 8) := by rw [get, if_neg (by simpa using c1), hi]
      simp -implicitDefEqProofs (disch := omega) only [i34_0, i34_1, i34_2, i34_3, i34_4, i34_5, i34_6, i34_7, i34_8, i34_9, i34_10, i34, idxI, zS, State.step, State.pure, State.pure.capsOf, arrGo, State.ghosts, State.ghost, State.srcRows, State.arrRows, State.pure.fillC, State.bound, State.rd, takeC, args0, State.res, State.res1, State.resS, State.resL, normS, AC.pure, splice, ↓reduceIte, Nat.reduceEqDiff, Nat.reduceLT, Nat.reduceLeDiff, Nat.reduceAdd, Nat.reduceSub, Nat.reduceMul, Int.reduceLE, Int.reduceLT, Int.reduceToNat, Int.reduceEq, Int.reduceNe, Int.reduceAdd, Int.reduceMul, Int.reducePow, Int.reduceNeg, Nat.reduceBEq, Int.reduceBNe, Int.reduceBEq, reduceCtorEq, ne_eq, IntWalk.iteOmega]
      subst hF
      (refine fin_pureN ?_ not_x_r; simp only [rs34, zS, State.step, State.pure, State.pure.capsOf, arrGo, State.ghosts, State.ghost, State.srcRows, State.arrRows, State.pure.fillC, State.bound, State.rd, takeC, args0, State.res, State.res1, State.resS, State.resL, normS, AC.pure, splice, ↓reduceIte, Nat.reduceEqDiff, Nat.reduceLT, Nat.reduceLeDiff, Nat.reduceAdd, Nat.reduceSub, Nat.reduceMul, Int.reduceLE, Int.reduceLT, Int.reduceToNat, Int.reduceEq, Int.reduceNe, Int.reduceAdd, Int.reduceMul, Int.reducePow, Int.reduceNeg, Nat.reduceBEq, Int.reduceBNe, Int.reduceBEq, reduceCtorEq, ne_eq, IntWalk.iteOmega]; refine ⟨_, rfl, rfl, ?_⟩)
      rw [refGet, e]; rfl
    | some i =>
      obtain ⟨x, hx, hkey⟩ := idx_some hi
      have hx' : (rowsK c.items)[i]? = some x.enc := by simp [rowsK, hx]
      have hil : i < c.items.length := (List.getElem?_eq_some_iff.1 hx).1
      have hr := hg.right x (List.mem_of_getElem? hx)
      have hnow := hg.now
      have hs0 : 0 ≤ x.since ∧ x.since ≤ c.now := by have := hr.1; unfold Right at this; omega
      obtain ⟨hs1, hs2⟩ := hs0
      obtain ⟨hn1, hn2⟩ := hnow
      have q0 : ((i : Int) < 0) = False := eq_false (by omega)
      clear hr hg
      simp -implicitDefEqProofs (disch := omega) only [i34_0, i34_1, i34_2, i34_3, i34_4, i34_5, i34_6, i34_7, i34_8, i34_9, i34_10, i34, idxI, q0, hx', Kept.enc, zS, State.step, State.pure, State.pure.capsOf, arrGo, State.ghosts, State.ghost, State.srcRows, State.arrRows, State.pure.fillC, State.bound, State.rd, takeC, args0, State.res, State.res1, State.resS, State.resL, normS, AC.pure, splice, ↓reduceIte, Nat.reduceEqDiff, Nat.reduceLT, Nat.reduceLeDiff, Nat.reduceAdd, Nat.reduceSub, Nat.reduceMul, Int.reduceLE, Int.reduceLT, Int.reduceToNat, Int.reduceEq, Int.reduceNe, Int.reduceAdd, Int.reduceMul, Int.reducePow, Int.reduceNeg, Nat.reduceBEq, Int.reduceBNe, Int.reduceBEq, reduceCtorEq, ne_eq, IntWalk.iteOmega]
      refine gCond_d (fun c2 c2' => ?_) (fun c2 c2' => ?_)
      · have e : get c o ch fresh = (⟨#[]⟩, c, 15) := by rw [get, if_neg (by simpa using c1), hi]; simp only [hx]; rw [if_pos c2]
        simp -implicitDefEqProofs (disch := omega) only [i34_0, i34_1, i34_2, i34_3, i34_4, i34_5, i34_6, i34_7, i34_8, i34_9, i34_10, i34, zS, State.step, State.pure, State.pure.capsOf, arrGo, State.ghosts, State.ghost, State.srcRows, State.arrRows, State.pure.fillC, State.bound, State.rd, takeC, args0, State.res, State.res1, State.resS, State.resL, normS, AC.pure, splice, ↓reduceIte, Nat.reduceEqDiff, Nat.reduceLT, Nat.reduceLeDiff, Nat.reduceAdd, Nat.reduceSub, Nat.reduceMul, Int.reduceLE, Int.reduceLT, Int.reduceToNat, Int.reduceEq, Int.reduceNe, Int.reduceAdd, Int.reduceMul, Int.reducePow, Int.reduceNeg, Nat.reduceBEq, Int.reduceBNe, Int.reduceBEq, reduceCtorEq, ne_eq, IntWalk.iteOmega]
        subst hF
        (refine fin_pureN ?_ not_x_r; simp only [rs34, zS, State.step, State.pure, State.pure.capsOf, arrGo, State.ghosts, State.ghost, State.srcRows, State.arrRows, State.pure.fillC, State.bound, State.rd, takeC, args0, State.res, State.res1, State.resS, State.resL, normS, AC.pure, splice, ↓reduceIte, Nat.reduceEqDiff, Nat.reduceLT, Nat.reduceLeDiff, Nat.reduceAdd, Nat.reduceSub, Nat.reduceMul, Int.reduceLE, Int.reduceLT, Int.reduceToNat, Int.reduceEq, Int.reduceNe, Int.reduceAdd, Int.reduceMul, Int.reducePow, Int.reduceNeg, Nat.reduceBEq, Int.reduceBNe, Int.reduceBEq, reduceCtorEq, ne_eq, IntWalk.iteOmega]; refine ⟨_, rfl, rfl, ?_⟩)
        rw [refGet, e]; rfl
      · have e : get c o ch fresh = (x.bytes, ⟨c.room, c.now, c.items.set i { x with used := c.now }⟩, 0) := by rw [get, if_neg (by simpa using c1), hi]; simp only [hx]; rw [if_neg c2]
        have hg1 : ∀ R, (rowsK c.items ++ R)[i]? = some x.enc := fun R => by rw [List.getElem?_append_left (by rw [rowsK_len]; exact hil), hx']
        have hg2 := fun R => set_rows c.items R i { x with used := c.now } hil
        have hg3 : ∀ R y, ((rowsK c.items ++ R).set i y).length = c.items.length + R.length := fun R y => by simp [rowsK_len]
        have q1 : ∀ N, (c.items.length ≤ c.items.length + N) = True := fun N => eq_true (by omega)
        have q2 : ((i : Int) < (c.items.length : Int)) = True := eq_true (by omega)
        have hg4 : (rowsK (c.items.set i { x with used := c.now }))[i]? = some (Kept.enc { x with used := c.now }) := by simp [rowsK, hil]
        simp only [Kept.enc] at hg2 hg4
        obtain ⟨y, ys, hys⟩ : ∃ y ys, rowsK c.items = y :: ys := by
          cases h : rowsK c.items with
          | nil => rw [h] at hx'; simp at hx'
          | cons y ys => exact ⟨y, ys, rfl⟩
        have hylen : ys.length + 1 = c.items.length := by have := rowsK_len c.items; rw [hys] at this; simpa using this
        have hbsl : bslv 0 = 1 := rfl
        rw [hys] at hx'
        simp only [hys, List.cons_append] at hg1 hg2 hg3
        have q3 : ((c.items.length) * 64 ≤ 140737488355328) = True := eq_true (by omega)
        have q4 : (c.items.length ≤ 9223372036854775807) = True := eq_true (by omega)
        simp -implicitDefEqProofs (disch := omega) only [i34_0, i34_1, i34_2, i34_3, i34_4, i34_5, i34_6, i34_7, i34_8, i34_9, i34_10, i34, zS, State.step, State.pure, State.pure.capsOf, arrGo, State.ghosts, State.ghost, State.srcRows, State.arrRows, State.pure.fillC, State.bound, State.rd, takeC, args0, State.res, State.res1, State.resS, State.resL, normS, AC.pure, splice, ↓reduceIte, Nat.reduceEqDiff, Nat.reduceLT, Nat.reduceLeDiff, Nat.reduceAdd, Nat.reduceSub, Nat.reduceMul, Int.reduceLE, Int.reduceLT, Int.reduceToNat, Int.reduceEq, Int.reduceNe, Int.reduceAdd, Int.reduceMul, Int.reducePow, Int.reduceNeg, Nat.reduceBEq, Int.reduceBNe, Int.reduceBEq, reduceCtorEq, ne_eq, IntWalk.iteOmega]
        refine ⟨?_, ?_⟩
        · simp -implicitDefEqProofs (disch := omega) only [g_goTB, State.stepA, hys, hylen, q3, q4, zS, State.step, State.pure, State.pure.capsOf, arrGo, State.ghosts, State.ghost, State.srcRows, State.arrRows, State.pure.fillC, State.bound, State.rd, takeC, args0, State.res, State.res1, State.resS, State.resL, normS, AC.pure, splice, ↓reduceIte, Nat.reduceEqDiff, Nat.reduceLT, Nat.reduceLeDiff, Nat.reduceAdd, Nat.reduceSub, Nat.reduceMul, Int.reduceLE, Int.reduceLT, Int.reduceToNat, Int.reduceEq, Int.reduceNe, Int.reduceAdd, Int.reduceMul, Int.reducePow, Int.reduceNeg, Nat.reduceBEq, Int.reduceBNe, Int.reduceBEq, reduceCtorEq, ne_eq, IntWalk.iteOmega]
          intro extra hex
          simp -implicitDefEqProofs (disch := omega) only [i34_0, i34_1, i34_2, i34_3, i34_4, i34_5, i34_6, i34_7, i34_8, i34_9, i34_10, i34, hg1, hg2, hg3, Kept.enc, List.length_replicate, q1, q2, hg4, hx', hylen, xsh_sl, xsh_aptr, zS, State.step, State.pure, State.pure.capsOf, arrGo, State.ghosts, State.ghost, State.srcRows, State.arrRows, State.pure.fillC, State.bound, State.rd, takeC, args0, State.res, State.res1, State.resS, State.resL, normS, AC.pure, splice, ↓reduceIte, Nat.reduceEqDiff, Nat.reduceLT, Nat.reduceLeDiff, Nat.reduceAdd, Nat.reduceSub, Nat.reduceMul, Int.reduceLE, Int.reduceLT, Int.reduceToNat, Int.reduceEq, Int.reduceNe, Int.reduceAdd, Int.reduceMul, Int.reducePow, Int.reduceNeg, Nat.reduceBEq, Int.reduceBNe, Int.reduceBEq, reduceCtorEq, ne_eq, IntWalk.iteOmega]
          subst hF
          (refine fin_pureN ?_ not_x_r; simp only [rs34, zS, State.step, State.pure, State.pure.capsOf, arrGo, State.ghosts, State.ghost, State.srcRows, State.arrRows, State.pure.fillC, State.bound, State.rd, takeC, args0, State.res, State.res1, State.resS, State.resL, normS, AC.pure, splice, ↓reduceIte, Nat.reduceEqDiff, Nat.reduceLT, Nat.reduceLeDiff, Nat.reduceAdd, Nat.reduceSub, Nat.reduceMul, Int.reduceLE, Int.reduceLT, Int.reduceToNat, Int.reduceEq, Int.reduceNe, Int.reduceAdd, Int.reduceMul, Int.reducePow, Int.reduceNeg, Nat.reduceBEq, Int.reduceBNe, Int.reduceBEq, reduceCtorEq, ne_eq, IntWalk.iteOmega]; refine ⟨_, rfl, rfl, ?_⟩)
          rw [refGet, e]; rfl
        · simp -implicitDefEqProofs (disch := omega) only [g_goTB, State.stepA, hys, hylen, q3, q4, zS, State.step, State.pure, State.pure.capsOf, arrGo, State.ghosts, State.ghost, State.srcRows, State.arrRows, State.pure.fillC, State.bound, State.rd, takeC, args0, State.res, State.res1, State.resS, State.resL, normS, AC.pure, splice, ↓reduceIte, Nat.reduceEqDiff, Nat.reduceLT, Nat.reduceLeDiff, Nat.reduceAdd, Nat.reduceSub, Nat.reduceMul, Int.reduceLE, Int.reduceLT, Int.reduceToNat, Int.reduceEq, Int.reduceNe, Int.reduceAdd, Int.reduceMul, Int.reducePow, Int.reduceNeg, Nat.reduceBEq, Int.reduceBNe, Int.reduceBEq, reduceCtorEq, ne_eq, IntWalk.iteOmega]
          intro extra hex
          simp -implicitDefEqProofs (disch := omega) only [i34_0, i34_1, i34_2, i34_3, i34_4, i34_5, i34_6, i34_7, i34_8, i34_9, i34_10, i34, hg1, hg2, hg3, Kept.enc, List.length_replicate, q1, q2, hg4, hx', hylen, xsh_sl, xsh_aptr, zS, State.step, State.pure, State.pure.capsOf, arrGo, State.ghosts, State.ghost, State.srcRows, State.arrRows, State.pure.fillC, State.bound, State.rd, takeC, args0, State.res, State.res1, State.resS, State.resL, normS, AC.pure, splice, ↓reduceIte, Nat.reduceEqDiff, Nat.reduceLT, Nat.reduceLeDiff, Nat.reduceAdd, Nat.reduceSub, Nat.reduceMul, Int.reduceLE, Int.reduceLT, Int.reduceToNat, Int.reduceEq, Int.reduceNe, Int.reduceAdd, Int.reduceMul, Int.reducePow, Int.reduceNeg, Nat.reduceBEq, Int.reduceBNe, Int.reduceBEq, reduceCtorEq, ne_eq, IntWalk.iteOmega]
          subst hF
          (refine fin_pureN ?_ not_x_r; simp only [rs34, zS, State.step, State.pure, State.pure.capsOf, arrGo, State.ghosts, State.ghost, State.srcRows, State.arrRows, State.pure.fillC, State.bound, State.rd, takeC, args0, State.res, State.res1, State.resS, State.resL, normS, AC.pure, splice, ↓reduceIte, Nat.reduceEqDiff, Nat.reduceLT, Nat.reduceLeDiff, Nat.reduceAdd, Nat.reduceSub, Nat.reduceMul, Int.reduceLE, Int.reduceLT, Int.reduceToNat, Int.reduceEq, Int.reduceNe, Int.reduceAdd, Int.reduceMul, Int.reducePow, Int.reduceNeg, Nat.reduceBEq, Int.reduceBNe, Int.reduceBEq, reduceCtorEq, ne_eq, IntWalk.iteOmega]; refine ⟨_, rfl, rfl, ?_⟩)
          rw [refGet, e]; rfl
  · have e : get c o ch fresh = (⟨#[]⟩, c, check c) := by rw [get, if_pos c1]
    simp -implicitDefEqProofs (disch := omega) only [i34_0, i34_1, i34_2, i34_3, i34_4, i34_5, i34_6, i34_7, i34_8, i34_9, i34_10, i34, zS, State.step, State.pure, State.pure.capsOf, arrGo, State.ghosts, State.ghost, State.srcRows, State.arrRows, State.pure.fillC, State.bound, State.rd, takeC, args0, State.res, State.res1, State.resS, State.resL, normS, AC.pure, splice, ↓reduceIte, Nat.reduceEqDiff, Nat.reduceLT, Nat.reduceLeDiff, Nat.reduceAdd, Nat.reduceSub, Nat.reduceMul, Int.reduceLE, Int.reduceLT, Int.reduceToNat, Int.reduceEq, Int.reduceNe, Int.reduceAdd, Int.reduceMul, Int.reducePow, Int.reduceNeg, Nat.reduceBEq, Int.reduceBNe, Int.reduceBEq, reduceCtorEq, ne_eq, IntWalk.iteOmega]
    subst hF
    (refine fin_pureN ?_ not_x_r; simp only [rs34, zS, State.step, State.pure, State.pure.capsOf, arrGo, State.ghosts, State.ghost, State.srcRows, State.arrRows, State.pure.fillC, State.bound, State.rd, takeC, args0, State.res, State.res1, State.resS, State.resL, normS, AC.pure, splice, ↓reduceIte, Nat.reduceEqDiff, Nat.reduceLT, Nat.reduceLeDiff, Nat.reduceAdd, Nat.reduceSub, Nat.reduceMul, Int.reduceLE, Int.reduceLT, Int.reduceToNat, Int.reduceEq, Int.reduceNe, Int.reduceAdd, Int.reduceMul, Int.reducePow, Int.reduceNeg, Nat.reduceBEq, Int.reduceBNe, Int.reduceBEq, reduceCtorEq, ne_eq, IntWalk.iteOmega]; refine ⟨_, rfl, rfl, ?_⟩)
    rw [refGet, e]; rfl
end Go.Proofs.Ytimapebigcmbmaa

set_option linter.unusedVariables false
set_option linter.unusedSimpArgs false
namespace Go.Proofs.Ytimapebigcmbmaa
open Go Go.AI Go.Proofs

/-- Is an item to go rather than the one that was chosen? -/
def Better (k x : Kept) : Option (Nat × Int) → Prop
  | none => ¬ SameKey x k
  | some (_, u) => ¬ SameKey x k ∧ x.used < u
instance (k x : Kept) (b : Option (Nat × Int)) : Decidable (Better k x b) := by cases b <;> (unfold Better; infer_instance)
def oldI (k : Kept) : List Kept → Nat → Option (Nat × Int) → Option (Nat × Int)
  | [], _, b => b
  | x :: l, i, b => oldI k l (i + 1) (if Better k x b then some (i, x.used) else b)
/-- What has been chosen among the first ones. -/
def Chosen (k : Kept) (l pre : List Kept) (b : Option (Nat × Int)) : Prop :=
  match b with
  | none => ∀ x ∈ pre, SameKey x k
  | some (j, u) => j < pre.length ∧ (∃ y, l[j]? = some y ∧ y.used = u ∧ ¬ SameKey y k) ∧ ∀ x ∈ pre, ¬ SameKey x k → u ≤ x.used
theorem chosen_step {k x : Kept} {l pre post : List Kept} {b : Option (Nat × Int)} (hp : pre ++ x :: post = l) (h : Chosen k l pre b) : Chosen k l (pre ++ [x]) (if Better k x b then some (pre.length, x.used) else b) := by
  have hx : l[pre.length]? = some x := by rw [← hp]; simp
  split
  · rename_i hb
    refine ⟨by simp, ⟨x, hx, rfl, ?_⟩, fun y hy hk => ?_⟩
    · cases b with
      | none => exact hb
      | some q => exact hb.1
    · rcases List.mem_append.1 hy with hy | hy
      · cases b with
        | none => exact absurd (h y hy) hk
        | some q => have := h.2.2 y hy hk; have := hb.2; omega
      · simp at hy; rw [hy]; exact Int.le_refl _
  · rename_i hb
    cases b with
    | none =>
      intro y hy
      rcases List.mem_append.1 hy with hy | hy
      · exact h y hy
      · simp at hy; rw [hy]; exact Decidable.not_not.1 hb
    | some q =>
      obtain ⟨j, u⟩ := q
      obtain ⟨h1, h2, h3⟩ := h
      refine ⟨by simp; omega, h2, fun y hy hk => ?_⟩
      rcases List.mem_append.1 hy with hy | hy
      · exact h3 y hy hk
      · simp at hy; rw [hy]; rw [hy] at hk
        have : ¬ x.used < u := fun q => hb ⟨hk, q⟩
        omega
theorem oldI_chosen {k : Kept} {l : List Kept} : ∀ {post pre : List Kept} {b : Option (Nat × Int)}, pre ++ post = l → Chosen k l pre b → Chosen k l l (oldI k post pre.length b) := by
  intro post
  induction post with
  | nil => intro pre b hp h; obtain rfl : pre = l := by simpa using hp
           exact h
  | cons x post ih =>
    intro pre b hp h
    have := ih (pre := pre ++ [x]) (b := if Better k x b then some (pre.length, x.used) else b) (by rw [← hp]; simp) (chosen_step hp h)
    simpa [oldI] using this
theorem oldI_spec (k : Kept) (l : List Kept) : Chosen k l l (oldI k l 0 none) := oldI_chosen (pre := []) rfl (by intro x hx; cases hx)
def evict (room : Int) (k : Kept) : Nat → List Kept → List Kept × List Kept
  | 0, l => (l, [])
  | m + 1, l => if room < tot l then match oldI k l 0 none with
      | some (i, _) => match l[i]? with
        | some x => ((evict room k m (l.eraseIdx i)).1, x :: (evict room k m (l.eraseIdx i)).2)
        | none => (l, [])
      | none => (l, [])
    else (l, [])
theorem tot_le_all {room : Nat} {k : Kept} {l : List Kept} (hs : l.Pairwise Before) (hk : ∀ x ∈ l, SameKey x k) (hb : ∀ x ∈ l, SameKey x k → x.bytes.size ≤ room) : tot l ≤ room := by
  cases l with
  | nil => simp [tot]
  | cons x l =>
    cases l with
    | nil => simpa [tot] using hb x (by simp) (hk x (by simp))
    | cons y l =>
      exfalso
      have h1 := (List.pairwise_cons.1 hs).1 y (by simp)
      have h2 := hk x (by simp)
      have h3 := hk y (by simp)
      unfold Before at h1; unfold SameKey at h2 h3; omega
theorem oldI_some {room : Int} {k : Kept} {l : List Kept} (hs : l.Pairwise Before) (hb : ∀ x ∈ l, SameKey x k → (x.bytes.size : Int) ≤ room) (hr0 : 0 ≤ room) (hr : room < tot l) : ∃ i x, oldI k l 0 none = some (i, x.used) ∧ l[i]? = some x ∧ ¬ SameKey x k ∧ i < l.length ∧ ∀ y ∈ l, ¬ SameKey y k → x.used ≤ y.used := by
  have h := oldI_spec k l
  cases ho : oldI k l 0 none with
  | none =>
    rw [ho] at h
    have := tot_le_all (room := room.toNat) hs h (fun x hx hk => by have := hb x hx hk; omega)
    omega
  | some q =>
    obtain ⟨i, u⟩ := q
    rw [ho] at h
    obtain ⟨h1, ⟨y, hy, rfl, hk⟩, h3⟩ := h
    exact ⟨i, y, rfl, hy, hk, h1, h3⟩
theorem tot_erase {l : List Kept} {i : Nat} {x : Kept} (h : l[i]? = some x) : tot (l.eraseIdx i) + x.bytes.size = tot l := by
  induction l generalizing i with
  | nil => simp at h
  | cons k l ih =>
    cases i with
    | zero => simp at h; subst h; simp [tot]; omega
    | succ i => simp at h; have := ih h; simp [tot]; omega
theorem evict_step {room : Int} {k x : Kept} {m i : Nat} {l : List Kept} (hr : room < tot l) (ho : oldI k l 0 none = some (i, x.used)) (hx : l[i]? = some x) : evict room k (m + 1) l = ((evict room k m (l.eraseIdx i)).1, x :: (evict room k m (l.eraseIdx i)).2) := by
  rw [evict, if_pos hr, ho]
  simp only [hx]
theorem evict_stop {room : Int} {k : Kept} {m : Nat} {l : List Kept} (hr : ¬ room < tot l) : evict room k m l = (l, []) := by
  cases m with
  | zero => rfl
  | succ m => rw [evict, if_neg hr]
theorem rows_erase (l : List Kept) (i : Nat) : (rowsK l).take i ++ (rowsK l).drop (i + 1) = rowsK (l.eraseIdx i) := by
  simp [rowsK, List.eraseIdx_eq_take_drop_succ]
end Go.Proofs.Ytimapebigcmbmaa

set_option linter.unusedVariables false
set_option linter.unusedSimpArgs false
namespace Go.Proofs.Ytimapebigcmbmaa
open Go Go.AI Go.Proofs

def idx2 (b : Option (Nat × Int)) : Int := match b with
  | some (i, _) => i
  | none => -1
theorem I20 (c z : List AC) (k : Kept) (l : List Kept) (hk : k.Ok) (hl : ∀ x ∈ l, x.Ok) (hn : l.length ≤ 1000000) (out : AV) (K : AX → State → Prop)
    (hK : ∀ X j, K (.x 2) ⟨[(2, .c (.ptr (some (0, 0)))), (3, .c (.ptr (some (1, 0)))), (4, .c (.ptr (some (2, 0)))), (11, .c (.list 0 7 (rowsK l))), (12, out), (13, .c (.int .i64 (idx2 (oldI k l 0 none)))), (97, .c (.list 0 7 (rowsK l))), (98, .c (.int .i64 l.length)), (99, .c (.int .i64 j)), (100, .c (.bool false))], .cells c :: .cells k.enc :: .cells z :: X⟩) :
    ∀ (post pre : List Kept) (b : Option (Nat × Int)), pre ++ post = l → oldI k l 0 none = oldI k post pre.length b → Chosen k l pre b → ∀ X,
      (IR.loop [] i20_L0).go Try.prog ⟨[(2, .c (.ptr (some (0, 0)))), (3, .c (.ptr (some (1, 0)))), (4, .c (.ptr (some (2, 0)))), (11, .c (.list 0 7 (rowsK l))), (12, out), (13, .c (.int .i64 (idx2 b))), (97, .c (.list 0 7 (rowsK l))), (98, .c (.int .i64 l.length)), (99, .c (.int .i64 pre.length))], .cells c :: .cells k.enc :: .cells z :: X⟩ K := by
  intro post
  induction post with
  | nil =>
    intro pre b hp ho hb X
    have hl : l = pre := by simpa using hp.symm
    have hK := hK X pre.length
    rw [ho] at hK
    simp only [oldI] at hK
    have hlen : l.length = pre.length := by rw [hl]
    refine go_loop fun L hL => ?_
    simp -implicitDefEqProofs (disch := omega) only [i20_0, i20_1, i20_2, i20_3, i20_4, i20_5, i20_6, i20_7, i20_8, i20_9, i20_10, i20_11, i20_12, i20_13, i20_14, i20_15, i20_16, i20_17, i20_18, i20_19, i20_20, i20_21, i20_22, i20_23, i20_24, i20_25, i20_26, i20_27, i20_28, i20_29, i20_30, i20_31, i20_K0, i20_K1, i20, i20_L0, hlen, zS, State.step, State.pure, State.pure.capsOf, arrGo, State.ghosts, State.ghost, State.srcRows, State.arrRows, State.pure.fillC, State.bound, State.rd, takeC, args0, State.res, State.res1, State.resS, State.resL, normS, AC.pure, splice, ↓reduceIte, Nat.reduceEqDiff, Nat.reduceLT, Nat.reduceLeDiff, Nat.reduceAdd, Nat.reduceSub, Nat.reduceMul, Int.reduceLE, Int.reduceLT, Int.reduceToNat, Int.reduceEq, Int.reduceNe, Int.reduceAdd, Int.reduceMul, Int.reducePow, Int.reduceNeg, Nat.reduceBEq, Int.reduceBNe, Int.reduceBEq, reduceCtorEq, ne_eq, IntWalk.iteOmega]
    rw [hL]; rw [← hlen] at hK ⊢; exact hK
  | cons x post ih =>
    intro pre b hp ho hb X
    have hget := row_at hp
    have hlt : (pre.length : Int) < l.length := by rw [← hp]; simp; omega
    have hx : x.Ok := hl x (by rw [← hp]; simp)
    have h26 := T26w x k
    have hsk := cmpW_eq hx hk
    have hN := ih (pre ++ [x]) _ (by rw [← hp]; simp) (by rw [ho, oldI, List.length_append]; rfl) (chosen_step hp hb)
    simp only [List.length_append, List.length_cons, List.length_nil] at hN
    refine go_loop fun L hL => ?_
    cases b with
    | none =>
      have q1 : ((-1 : Int) < 0) = True := eq_true (by omega)
      clear ih ho hb hl hx hk
      simp -implicitDefEqProofs (disch := omega) only [i20_0, i20_1, i20_2, i20_3, i20_4, i20_5, i20_6, i20_7, i20_8, i20_9, i20_10, i20_11, i20_12, i20_13, i20_14, i20_15, i20_16, i20_17, i20_18, i20_19, i20_20, i20_21, i20_22, i20_23, i20_24, i20_25, i20_26, i20_27, i20_28, i20_29, i20_30, i20_31, i20_K0, i20_K1, i20, i20_L0, hlt, hget, Kept.enc, idx2, zS, State.step, State.pure, State.pure.capsOf, arrGo, State.ghosts, State.ghost, State.srcRows, State.arrRows, State.pure.fillC, State.bound, State.rd, takeC, args0, State.res, State.res1, State.resS, State.resL, normS, AC.pure, splice, ↓reduceIte, Nat.reduceEqDiff, Nat.reduceLT, Nat.reduceLeDiff, Nat.reduceAdd, Nat.reduceSub, Nat.reduceMul, Int.reduceLE, Int.reduceLT, Int.reduceToNat, Int.reduceEq, Int.reduceNe, Int.reduceAdd, Int.reduceMul, Int.reducePow, Int.reduceNeg, Nat.reduceBEq, Int.reduceBNe, Int.reduceBEq, reduceCtorEq, ne_eq, IntWalk.iteOmega]
      refine call_pure h26 rfl rfl ?_
      simp -implicitDefEqProofs (disch := omega) only [q1, zS, State.step, State.pure, State.pure.capsOf, arrGo, State.ghosts, State.ghost, State.srcRows, State.arrRows, State.pure.fillC, State.bound, State.rd, takeC, args0, State.res, State.res1, State.resS, State.resL, normS, AC.pure, splice, ↓reduceIte, Nat.reduceEqDiff, Nat.reduceLT, Nat.reduceLeDiff, Nat.reduceAdd, Nat.reduceSub, Nat.reduceMul, Int.reduceLE, Int.reduceLT, Int.reduceToNat, Int.reduceEq, Int.reduceNe, Int.reduceAdd, Int.reduceMul, Int.reducePow, Int.reduceNeg, Nat.reduceBEq, Int.reduceBNe, Int.reduceBEq, reduceCtorEq, ne_eq, IntWalk.iteOmega]
      by_cases hs : cmpW x k = 0
      · have e : ¬ Better k x none := fun h => h (hsk.1 hs)
        rw [if_neg e] at hN
        simp -implicitDefEqProofs (disch := omega) only [i20_0, i20_1, i20_2, i20_3, i20_4, i20_5, i20_6, i20_7, i20_8, i20_9, i20_10, i20_11, i20_12, i20_13, i20_14, i20_15, i20_16, i20_17, i20_18, i20_19, i20_20, i20_21, i20_22, i20_23, i20_24, i20_25, i20_26, i20_27, i20_28, i20_29, i20_30, i20_31, i20_K0, i20_K1, i20, hs, zS, State.step, State.pure, State.pure.capsOf, arrGo, State.ghosts, State.ghost, State.srcRows, State.arrRows, State.pure.fillC, State.bound, State.rd, takeC, args0, State.res, State.res1, State.resS, State.resL, normS, AC.pure, splice, ↓reduceIte, Nat.reduceEqDiff, Nat.reduceLT, Nat.reduceLeDiff, Nat.reduceAdd, Nat.reduceSub, Nat.reduceMul, Int.reduceLE, Int.reduceLT, Int.reduceToNat, Int.reduceEq, Int.reduceNe, Int.reduceAdd, Int.reduceMul, Int.reducePow, Int.reduceNeg, Nat.reduceBEq, Int.reduceBNe, Int.reduceBEq, reduceCtorEq, ne_eq, IntWalk.iteOmega]
        rw [hL]; exact hN _
      · have e : Better k x none := fun h => hs (hsk.2 h)
        rw [if_pos e] at hN
        simp -implicitDefEqProofs (disch := omega) only [i20_0, i20_1, i20_2, i20_3, i20_4, i20_5, i20_6, i20_7, i20_8, i20_9, i20_10, i20_11, i20_12, i20_13, i20_14, i20_15, i20_16, i20_17, i20_18, i20_19, i20_20, i20_21, i20_22, i20_23, i20_24, i20_25, i20_26, i20_27, i20_28, i20_29, i20_30, i20_31, i20_K0, i20_K1, i20, hs, q1, zS, State.step, State.pure, State.pure.capsOf, arrGo, State.ghosts, State.ghost, State.srcRows, State.arrRows, State.pure.fillC, State.bound, State.rd, takeC, args0, State.res, State.res1, State.resS, State.resL, normS, AC.pure, splice, ↓reduceIte, Nat.reduceEqDiff, Nat.reduceLT, Nat.reduceLeDiff, Nat.reduceAdd, Nat.reduceSub, Nat.reduceMul, Int.reduceLE, Int.reduceLT, Int.reduceToNat, Int.reduceEq, Int.reduceNe, Int.reduceAdd, Int.reduceMul, Int.reducePow, Int.reduceNeg, Nat.reduceBEq, Int.reduceBNe, Int.reduceBEq, reduceCtorEq, ne_eq, IntWalk.iteOmega]
        rw [hL]; exact hN _
    | some q =>
      obtain ⟨j, u⟩ := q
      obtain ⟨hj, ⟨y, hy, rfl, _⟩, _⟩ := hb
      have hy' : (rowsK l)[j]? = some y.enc := by simp [rowsK, hy]
      have q1 : ((j : Int) < 0) = False := eq_false (by omega)
      clear ih ho hl hx hk
      simp -implicitDefEqProofs (disch := omega) only [i20_0, i20_1, i20_2, i20_3, i20_4, i20_5, i20_6, i20_7, i20_8, i20_9, i20_10, i20_11, i20_12, i20_13, i20_14, i20_15, i20_16, i20_17, i20_18, i20_19, i20_20, i20_21, i20_22, i20_23, i20_24, i20_25, i20_26, i20_27, i20_28, i20_29, i20_30, i20_31, i20_K0, i20_K1, i20, i20_L0, hlt, hget, Kept.enc, idx2, zS, State.step, State.pure, State.pure.capsOf, arrGo, State.ghosts, State.ghost, State.srcRows, State.arrRows, State.pure.fillC, State.bound, State.rd, takeC, args0, State.res, State.res1, State.resS, State.resL, normS, AC.pure, splice, ↓reduceIte, Nat.reduceEqDiff, Nat.reduceLT, Nat.reduceLeDiff, Nat.reduceAdd, Nat.reduceSub, Nat.reduceMul, Int.reduceLE, Int.reduceLT, Int.reduceToNat, Int.reduceEq, Int.reduceNe, Int.reduceAdd, Int.reduceMul, Int.reducePow, Int.reduceNeg, Nat.reduceBEq, Int.reduceBNe, Int.reduceBEq, reduceCtorEq, ne_eq, IntWalk.iteOmega]
      refine call_pure h26 rfl rfl ?_
      simp -implicitDefEqProofs (disch := omega) only [q1, hy', Kept.enc, zS, State.step, State.pure, State.pure.capsOf, arrGo, State.ghosts, State.ghost, State.srcRows, State.arrRows, State.pure.fillC, State.bound, State.rd, takeC, args0, State.res, State.res1, State.resS, State.resL, normS, AC.pure, splice, ↓reduceIte, Nat.reduceEqDiff, Nat.reduceLT, Nat.reduceLeDiff, Nat.reduceAdd, Nat.reduceSub, Nat.reduceMul, Int.reduceLE, Int.reduceLT, Int.reduceToNat, Int.reduceEq, Int.reduceNe, Int.reduceAdd, Int.reduceMul, Int.reducePow, Int.reduceNeg, Nat.reduceBEq, Int.reduceBNe, Int.reduceBEq, reduceCtorEq, ne_eq, IntWalk.iteOmega]
      by_cases hs : cmpW x k = 0
      · have e : ¬ Better k x (some (j, y.used)) := fun h => h.1 (hsk.1 hs)
        rw [if_neg e] at hN
        simp -implicitDefEqProofs (disch := omega) only [i20_0, i20_1, i20_2, i20_3, i20_4, i20_5, i20_6, i20_7, i20_8, i20_9, i20_10, i20_11, i20_12, i20_13, i20_14, i20_15, i20_16, i20_17, i20_18, i20_19, i20_20, i20_21, i20_22, i20_23, i20_24, i20_25, i20_26, i20_27, i20_28, i20_29, i20_30, i20_31, i20_K0, i20_K1, i20, hs, zS, State.step, State.pure, State.pure.capsOf, arrGo, State.ghosts, State.ghost, State.srcRows, State.arrRows, State.pure.fillC, State.bound, State.rd, takeC, args0, State.res, State.res1, State.resS, State.resL, normS, AC.pure, splice, ↓reduceIte, Nat.reduceEqDiff, Nat.reduceLT, Nat.reduceLeDiff, Nat.reduceAdd, Nat.reduceSub, Nat.reduceMul, Int.reduceLE, Int.reduceLT, Int.reduceToNat, Int.reduceEq, Int.reduceNe, Int.reduceAdd, Int.reduceMul, Int.reducePow, Int.reduceNeg, Nat.reduceBEq, Int.reduceBNe, Int.reduceBEq, reduceCtorEq, ne_eq, IntWalk.iteOmega]
        rw [hL]; exact hN _
      · by_cases hu : x.used < y.used
        · have e : Better k x (some (j, y.used)) := ⟨fun h => hs (hsk.2 h), hu⟩
          rw [if_pos e] at hN
          simp -implicitDefEqProofs (disch := omega) only [i20_0, i20_1, i20_2, i20_3, i20_4, i20_5, i20_6, i20_7, i20_8, i20_9, i20_10, i20_11, i20_12, i20_13, i20_14, i20_15, i20_16, i20_17, i20_18, i20_19, i20_20, i20_21, i20_22, i20_23, i20_24, i20_25, i20_26, i20_27, i20_28, i20_29, i20_30, i20_31, i20_K0, i20_K1, i20, hs, q1, hy', hu, Kept.enc, zS, State.step, State.pure, State.pure.capsOf, arrGo, State.ghosts, State.ghost, State.srcRows, State.arrRows, State.pure.fillC, State.bound, State.rd, takeC, args0, State.res, State.res1, State.resS, State.resL, normS, AC.pure, splice, ↓reduceIte, Nat.reduceEqDiff, Nat.reduceLT, Nat.reduceLeDiff, Nat.reduceAdd, Nat.reduceSub, Nat.reduceMul, Int.reduceLE, Int.reduceLT, Int.reduceToNat, Int.reduceEq, Int.reduceNe, Int.reduceAdd, Int.reduceMul, Int.reducePow, Int.reduceNeg, Nat.reduceBEq, Int.reduceBNe, Int.reduceBEq, reduceCtorEq, ne_eq, IntWalk.iteOmega]
          rw [hL]; exact hN _
        · have e : ¬ Better k x (some (j, y.used)) := fun h => hu h.2
          rw [if_neg e] at hN
          simp -implicitDefEqProofs (disch := omega) only [i20_0, i20_1, i20_2, i20_3, i20_4, i20_5, i20_6, i20_7, i20_8, i20_9, i20_10, i20_11, i20_12, i20_13, i20_14, i20_15, i20_16, i20_17, i20_18, i20_19, i20_20, i20_21, i20_22, i20_23, i20_24, i20_25, i20_26, i20_27, i20_28, i20_29, i20_30, i20_31, i20_K0, i20_K1, i20, hs, q1, hy', hu, Kept.enc, zS, State.step, State.pure, State.pure.capsOf, arrGo, State.ghosts, State.ghost, State.srcRows, State.arrRows, State.pure.fillC, State.bound, State.rd, takeC, args0, State.res, State.res1, State.resS, State.resL, normS, AC.pure, splice, ↓reduceIte, Nat.reduceEqDiff, Nat.reduceLT, Nat.reduceLeDiff, Nat.reduceAdd, Nat.reduceSub, Nat.reduceMul, Int.reduceLE, Int.reduceLT, Int.reduceToNat, Int.reduceEq, Int.reduceNe, Int.reduceAdd, Int.reduceMul, Int.reducePow, Int.reduceNeg, Nat.reduceBEq, Int.reduceBNe, Int.reduceBEq, reduceCtorEq, ne_eq, IntWalk.iteOmega]
          rw [hL]; exact hN _
theorem E20 (cc : Cache) (z : List AC) (k : Kept) (hk : k.Ok) (hroom : 0 ≤ cc.room) (l' o' : List Kept) (K : AX → State → Prop)
    (hK : ∀ X lv, lv = 1 ∨ lv = 2 → K (.x 0) ⟨[(2, .c (.ptr (some (0, 0)))), (3, .c (.ptr (some (1, 0)))), (4, .c (.ptr (some (2, 0)))), (11, .c (.list 0 7 (rowsK l'))), (12, .c (.list lv 7 (rowsK o'))), (96, .c (.bool false))], .cells cc.enc :: .cells k.enc :: .cells z :: X⟩) :
    ∀ (m : Nat) (l out : List Kept) (lv : Nat), l.length ≤ m → l.Pairwise Before → (∀ x ∈ l, x.Ok) → (∀ x ∈ l, SameKey x k → (x.bytes.size : Int) ≤ cc.room) → l.length ≤ 1000000 → out.length + l.length ≤ 2000000 → tot l ≤ 1000000000000000 →
      (evict cc.room k m l).1 = l' → out ++ (evict cc.room k m l).2 = o' → lv = 1 ∨ lv = 2 → ∀ X,
      (IR.loop [] i20_L1).go Try.prog ⟨[(2, .c (.ptr (some (0, 0)))), (3, .c (.ptr (some (1, 0)))), (4, .c (.ptr (some (2, 0)))), (11, .c (.list 0 7 (rowsK l))), (12, .c (.list lv 7 (rowsK out)))], .cells cc.enc :: .cells k.enc :: .cells z :: X⟩ K := by
  intro m
  induction m with
  | zero =>
    intro l out lv hm hs hok hsame hn hno htot h1 h2 hlv X
    obtain rfl : l = [] := List.eq_nil_of_length_eq_zero (by omega)
    have h27 := T27 [] (by simp) (by simp [tot])
    have e0 : evict cc.room k 0 [] = ([], []) := rfl
    rw [e0] at h1 h2
    simp only [List.append_nil] at h2
    subst h1; subst h2
    have q : (cc.room < ((tot [] : Nat) : Int)) = False := eq_false (by simp [tot]; omega)
    have hKK := hK X
    simp only [Cache.enc] at hKK
    refine go_loop fun L hL => ?_
    rcases hlv with rfl | rfl <;>
    · simp -implicitDefEqProofs (disch := omega) only [i20_0, i20_1, i20_2, i20_3, i20_4, i20_5, i20_6, i20_7, i20_8, i20_9, i20_10, i20_11, i20_12, i20_13, i20_14, i20_15, i20_16, i20_17, i20_18, i20_19, i20_20, i20_21, i20_22, i20_23, i20_24, i20_25, i20_26, i20_27, i20_28, i20_29, i20_30, i20_31, i20, i20_L1, Cache.enc, zS, State.step, State.pure, State.pure.capsOf, arrGo, State.ghosts, State.ghost, State.srcRows, State.arrRows, State.pure.fillC, State.bound, State.rd, takeC, args0, State.res, State.res1, State.resS, State.resL, normS, AC.pure, splice, ↓reduceIte, Nat.reduceEqDiff, Nat.reduceLT, Nat.reduceLeDiff, Nat.reduceAdd, Nat.reduceSub, Nat.reduceMul, Int.reduceLE, Int.reduceLT, Int.reduceToNat, Int.reduceEq, Int.reduceNe, Int.reduceAdd, Int.reduceMul, Int.reducePow, Int.reduceNeg, Nat.reduceBEq, Int.reduceBNe, Int.reduceBEq, reduceCtorEq, ne_eq, IntWalk.iteOmega]
      refine call_pure h27 rfl rfl ?_
      simp -implicitDefEqProofs (disch := omega) only [q, zS, State.step, State.pure, State.pure.capsOf, arrGo, State.ghosts, State.ghost, State.srcRows, State.arrRows, State.pure.fillC, State.bound, State.rd, takeC, args0, State.res, State.res1, State.resS, State.resL, normS, AC.pure, splice, ↓reduceIte, Nat.reduceEqDiff, Nat.reduceLT, Nat.reduceLeDiff, Nat.reduceAdd, Nat.reduceSub, Nat.reduceMul, Int.reduceLE, Int.reduceLT, Int.reduceToNat, Int.reduceEq, Int.reduceNe, Int.reduceAdd, Int.reduceMul, Int.reducePow, Int.reduceNeg, Nat.reduceBEq, Int.reduceBNe, Int.reduceBEq, reduceCtorEq, ne_eq, IntWalk.iteOmega]
      rw [hL]
      first | exact hKK 1 (.inl rfl) | exact hKK 2 (.inr rfl)
  | succ m ih =>
    intro l out lv hm hs hok hsame hn hno htot h1 h2 hlv X
    have h27 := T27 l hn htot
    by_cases hr : cc.room < tot l
    · obtain ⟨i, x, ho, hx, hnk, hil, _⟩ := oldI_some hs hsame hroom hr
      rw [evict_step hr ho hx] at h1 h2
      simp only at h1 h2
      have hlen : (l.eraseIdx i).length + 1 = l.length := by rw [List.length_eraseIdx]; simp [hil]; omega
      have hsub : (l.eraseIdx i).Sublist l := List.eraseIdx_sublist l i
      have hte := tot_erase hx
      have hN := ih (l.eraseIdx i) (out ++ [x]) 2 (by omega) (hs.sublist hsub) (fun y hy => hok y (hsub.subset hy)) (fun y hy => hsame y (hsub.subset hy)) (by omega) (by simp; omega) (by omega) h1 (by rw [← h2]; simp) (.inr rfl)
      have hI := fun out K hK X => I20 cc.enc z k l hk hok hn out K hK l [] none rfl rfl (by intro x hx; cases hx) X
      have hx' : (rowsK l)[i]? = some x.enc := by simp [rowsK, hx]
      have q : (cc.room < ((tot l : Nat) : Int)) = True := eq_true hr
      have q1 : ((i : Int) < (l.length : Int)) = True := eq_true (by omega)
      have q2 : (i ≤ l.length) = True := eq_true (by omega)
      have q3 : (i + 1 ≤ l.length) = True := eq_true (by omega)
      have q4 : ((i : Int) + 1).toNat = i + 1 := by omega
      have hrow := rows_erase l i
      have hrl : (rowsK l).length = l.length := rowsK_len l
      have hol : (rowsK out).length = out.length := rowsK_len out
      have hd1 : ((rowsK l).take i).length = i := by rw [List.length_take, rowsK_len]; omega
      have hd2 : ((rowsK l).drop (i + 1)).length = l.length - (i + 1) := by rw [List.length_drop, rowsK_len]
      have hd3 : ((rowsK l).drop (i + 1)).take (l.length - (i + 1)) = (rowsK l).drop (i + 1) := List.take_of_length_le (by omega)
      have hi1 : i ≤ 1000000 := by omega
      have hl2 : i + (l.length - (i + 1)) ≤ 1000000 := by omega
      have hsn := rowsK_snoc out x
      clear ih hs hok hsame hte htot hsub
      refine go_loop fun L hL => ?_
      rw [ho] at hI
      simp only [Cache.enc] at hI
      rcases hlv with rfl | rfl <;>
      · simp -implicitDefEqProofs (disch := omega) only [i20_0, i20_1, i20_2, i20_3, i20_4, i20_5, i20_6, i20_7, i20_8, i20_9, i20_10, i20_11, i20_12, i20_13, i20_14, i20_15, i20_16, i20_17, i20_18, i20_19, i20_20, i20_21, i20_22, i20_23, i20_24, i20_25, i20_26, i20_27, i20_28, i20_29, i20_30, i20_31, i20, i20_L1, Cache.enc, zS, State.step, State.pure, State.pure.capsOf, arrGo, State.ghosts, State.ghost, State.srcRows, State.arrRows, State.pure.fillC, State.bound, State.rd, takeC, args0, State.res, State.res1, State.resS, State.resL, normS, AC.pure, splice, ↓reduceIte, Nat.reduceEqDiff, Nat.reduceLT, Nat.reduceLeDiff, Nat.reduceAdd, Nat.reduceSub, Nat.reduceMul, Int.reduceLE, Int.reduceLT, Int.reduceToNat, Int.reduceEq, Int.reduceNe, Int.reduceAdd, Int.reduceMul, Int.reducePow, Int.reduceNeg, Nat.reduceBEq, Int.reduceBNe, Int.reduceBEq, reduceCtorEq, ne_eq, IntWalk.iteOmega]
        refine call_pure h27 rfl rfl ?_
        simp -implicitDefEqProofs (disch := omega) only [i20_0, i20_1, i20_2, i20_3, i20_4, i20_5, i20_6, i20_7, i20_8, i20_9, i20_10, i20_11, i20_12, i20_13, i20_14, i20_15, i20_16, i20_17, i20_18, i20_19, i20_20, i20_21, i20_22, i20_23, i20_24, i20_25, i20_26, i20_27, i20_28, i20_29, i20_30, i20_31, i20, q, rowsK_len, zS, State.step, State.pure, State.pure.capsOf, arrGo, State.ghosts, State.ghost, State.srcRows, State.arrRows, State.pure.fillC, State.bound, State.rd, takeC, args0, State.res, State.res1, State.resS, State.resL, normS, AC.pure, splice, ↓reduceIte, Nat.reduceEqDiff, Nat.reduceLT, Nat.reduceLeDiff, Nat.reduceAdd, Nat.reduceSub, Nat.reduceMul, Int.reduceLE, Int.reduceLT, Int.reduceToNat, Int.reduceEq, Int.reduceNe, Int.reduceAdd, Int.reduceMul, Int.reducePow, Int.reduceNeg, Nat.reduceBEq, Int.reduceBNe, Int.reduceBEq, reduceCtorEq, ne_eq, IntWalk.iteOmega]
        refine hI _ _ (fun X j => ?_) X
        simp -implicitDefEqProofs (disch := omega) only [i20_0, i20_1, i20_2, i20_3, i20_4, i20_5, i20_6, i20_7, i20_8, i20_9, i20_10, i20_11, i20_12, i20_13, i20_14, i20_15, i20_16, i20_17, i20_18, i20_19, i20_20, i20_21, i20_22, i20_23, i20_24, i20_25, i20_26, i20_27, i20_28, i20_29, i20_30, i20_31, i20_K0, i20_K1, i20, idx2, hx', Kept.enc, q1, q2, q3, q4, hrow, hrl, hol, hd1, hd2, hd3, zS, State.step, State.pure, State.pure.capsOf, arrGo, State.ghosts, State.ghost, State.srcRows, State.arrRows, State.pure.fillC, State.bound, State.rd, takeC, args0, State.res, State.res1, State.resS, State.resL, normS, AC.pure, splice, ↓reduceIte, Nat.reduceEqDiff, Nat.reduceLT, Nat.reduceLeDiff, Nat.reduceAdd, Nat.reduceSub, Nat.reduceMul, Int.reduceLE, Int.reduceLT, Int.reduceToNat, Int.reduceEq, Int.reduceNe, Int.reduceAdd, Int.reduceMul, Int.reducePow, Int.reduceNeg, Nat.reduceBEq, Int.reduceBNe, Int.reduceBEq, reduceCtorEq, ne_eq, IntWalk.iteOmega]
        rw [hL]
        have := hN X
        rw [← hsn] at this
        exact this
    · rw [evict_stop hr] at h1 h2
      simp only [List.append_nil] at h1 h2
      subst h1; subst h2
      have q : (cc.room < ((tot l : Nat) : Int)) = False := eq_false hr
      have hKK := hK X
      simp only [Cache.enc] at hKK
      clear ih hs hok hsame htot
      refine go_loop fun L hL => ?_
      rcases hlv with rfl | rfl <;>
      · simp -implicitDefEqProofs (disch := omega) only [i20_0, i20_1, i20_2, i20_3, i20_4, i20_5, i20_6, i20_7, i20_8, i20_9, i20_10, i20_11, i20_12, i20_13, i20_14, i20_15, i20_16, i20_17, i20_18, i20_19, i20_20, i20_21, i20_22, i20_23, i20_24, i20_25, i20_26, i20_27, i20_28, i20_29, i20_30, i20_31, i20, i20_L1, Cache.enc, zS, State.step, State.pure, State.pure.capsOf, arrGo, State.ghosts, State.ghost, State.srcRows, State.arrRows, State.pure.fillC, State.bound, State.rd, takeC, args0, State.res, State.res1, State.resS, State.resL, normS, AC.pure, splice, ↓reduceIte, Nat.reduceEqDiff, Nat.reduceLT, Nat.reduceLeDiff, Nat.reduceAdd, Nat.reduceSub, Nat.reduceMul, Int.reduceLE, Int.reduceLT, Int.reduceToNat, Int.reduceEq, Int.reduceNe, Int.reduceAdd, Int.reduceMul, Int.reducePow, Int.reduceNeg, Nat.reduceBEq, Int.reduceBNe, Int.reduceBEq, reduceCtorEq, ne_eq, IntWalk.iteOmega]
        refine call_pure h27 rfl rfl ?_
        simp -implicitDefEqProofs (disch := omega) only [q, zS, State.step, State.pure, State.pure.capsOf, arrGo, State.ghosts, State.ghost, State.srcRows, State.arrRows, State.pure.fillC, State.bound, State.rd, takeC, args0, State.res, State.res1, State.resS, State.resL, normS, AC.pure, splice, ↓reduceIte, Nat.reduceEqDiff, Nat.reduceLT, Nat.reduceLeDiff, Nat.reduceAdd, Nat.reduceSub, Nat.reduceMul, Int.reduceLE, Int.reduceLT, Int.reduceToNat, Int.reduceEq, Int.reduceNe, Int.reduceAdd, Int.reduceMul, Int.reducePow, Int.reduceNeg, Nat.reduceBEq, Int.reduceBNe, Int.reduceBEq, reduceCtorEq, ne_eq, IntWalk.iteOmega]
        rw [hL]
        first | exact hKK 1 (.inl rfl) | exact hKK 2 (.inr rfl)
end Go.Proofs.Ytimapebigcmbmaa

set_option linter.unusedVariables false
set_option linter.unusedSimpArgs false
namespace Go.Proofs.Ytimapebigcmbmaa
open Go Go.AI Go.Proofs

def putL (k : Kept) (l : List Kept) : List Kept := match idx k.object k.chunk l with
  | some i => l.set i k
  | none => l.take (pos l k) ++ k :: l.drop (pos l k)
theorem tot_set {l : List Kept} {i : Nat} {x k : Kept} (h : l[i]? = some x) : tot (l.set i k) + x.bytes.size = tot l + k.bytes.size := by
  induction l generalizing i with
  | nil => simp at h
  | cons y l ih =>
    cases i with
    | zero => simp at h; subst h; simp [tot]; omega
    | succ i => simp at h; have := ih h; simp [tot]; omega
theorem putL_len (k : Kept) (l : List Kept) : (putL k l).length ≤ l.length + 1 := by
  unfold putL
  split
  · simp
  · have := pos_le l k; simp; omega
theorem putL_tot (k : Kept) (l : List Kept) : tot (putL k l) ≤ tot l + k.bytes.size := by
  unfold putL
  split
  · rename_i i hi
    obtain ⟨x, hx, _⟩ := idx_some hi
    have := tot_set (k := k) hx; omega
  · have h1 : tot l = tot (l.take (pos l k)) + tot (l.drop (pos l k)) := by rw [← tot_app, List.take_append_drop]
    rw [tot_app, tot]; omega
theorem SameKey.before_l {a b c : Kept} (h : SameKey a b) : Before a c ↔ Before b c := by unfold SameKey at h; unfold Before; omega
theorem SameKey.before_r {a b c : Kept} (h : SameKey a b) : Before c a ↔ Before c b := by unfold SameKey at h; unfold Before; omega
theorem not_before {a b : Kept} (h : ¬ Before a b) (h2 : ¬ SameKey a b) : Before b a := by unfold SameKey at h2; unfold Before at *; omega
theorem putL_mem {k : Kept} {l : List Kept} (hs : l.Pairwise Before) {x : Kept} (h : x ∈ putL k l) : x = k ∨ (x ∈ l ∧ ¬ SameKey x k) := by
  unfold putL at h
  split at h
  · rename_i i hi
    obtain ⟨y, hy, hk⟩ := idx_some hi
    obtain ⟨j, hj⟩ := List.getElem?_of_mem h
    by_cases e : i = j
    · subst e
      rw [List.getElem?_set_self (List.getElem?_eq_some_iff.1 hy).1] at hj
      exact .inl (Option.some.inj hj).symm
    · rw [List.getElem?_set_ne e] at hj
      refine .inr ⟨List.mem_of_getElem? hj, fun hsame => e ?_⟩
      exact sorted_uniq hs hy hj (by unfold SameKey at *; unfold Key at hk; omega)
  · rename_i hi
    have hn := idx_none.1 hi
    rw [List.mem_append, List.mem_cons] at h
    rcases h with h | h | h
    · have := List.mem_of_mem_take h; exact .inr ⟨this, hn x this⟩
    · exact .inl h
    · have := List.mem_of_mem_drop h; exact .inr ⟨this, hn x this⟩
theorem putL_self (k : Kept) (l : List Kept) : k ∈ putL k l := by
  unfold putL
  split
  · rename_i i hi
    obtain ⟨y, hy, hk⟩ := idx_some hi
    exact List.mem_of_getElem? (List.getElem?_set_self (List.getElem?_eq_some_iff.1 hy).1)
  · simp
theorem putL_keep {k : Kept} {l : List Kept} {x : Kept} (hx : x ∈ l) (hk : ¬ SameKey x k) : x ∈ putL k l := by
  unfold putL
  split
  · rename_i i hi
    obtain ⟨y, hy, hky⟩ := idx_some hi
    obtain ⟨j, hj⟩ := List.getElem?_of_mem hx
    have e : i ≠ j := by
      intro e; subst e; rw [hy] at hj; obtain rfl := Option.some.inj hj
      exact hk hky
    exact List.mem_of_getElem? (by rw [List.getElem?_set_ne e]; exact hj)
  · rw [List.mem_append, List.mem_cons]
    have : x ∈ l.take (pos l k) ++ l.drop (pos l k) := by rw [List.take_append_drop]; exact hx
    rcases List.mem_append.1 this with h | h
    · exact .inl h
    · exact .inr (.inr h)
theorem pairwise_ins {l1 l2 : List Kept} {k : Kept} (hs : (l1 ++ l2).Pairwise Before) (h1 : ∀ x ∈ l1, Before x k) (h2 : ∀ x ∈ l2, Before k x) : (l1 ++ k :: l2).Pairwise Before := by
  obtain ⟨a, b, c⟩ := List.pairwise_append.1 hs
  refine List.pairwise_append.2 ⟨a, List.pairwise_cons.2 ⟨h2, b⟩, fun x hx y hy => ?_⟩
  rcases List.mem_cons.1 hy with rfl | hy
  · exact h1 x hx
  · exact c x hx y hy
theorem putL_sorted {k : Kept} {l : List Kept} (hs : l.Pairwise Before) : (putL k l).Pairwise Before := by
  unfold putL
  split
  · rename_i i hi
    obtain ⟨y, hy, hk⟩ := idx_some hi
    have hsame : SameKey y k := hk
    obtain ⟨hil, hy'⟩ := List.getElem?_eq_some_iff.1 hy
    rw [List.pairwise_iff_getElem] at hs ⊢
    intro a b ha hb hab
    rw [List.length_set] at ha hb
    rw [List.getElem_set, List.getElem_set]
    have := hs a b ha hb hab
    split
    · rename_i e; subst e
      rw [if_neg (by omega)]
      rw [hy'] at this; exact hsame.before_l.1 this
    · split
      · rename_i e; subst e
        rw [hy'] at this; exact hsame.before_r.1 this
      · exact this
  · rename_i hi
    have hn := idx_none.1 hi
    refine pairwise_ins (by rw [List.take_append_drop]; exact hs) (fun x hx => ?_) (fun x hx => ?_)
    · obtain ⟨j, hj⟩ := List.getElem?_of_mem hx
      rw [List.getElem?_take] at hj
      split at hj
      · rename_i hlt; exact (pos_lt hs k j x hj).2 hlt
      · cases hj
    · obtain ⟨j, hj⟩ := List.getElem?_of_mem hx
      rw [List.getElem?_drop] at hj
      have h1 : ¬ Before x k := fun h => by have := (pos_lt hs k _ x hj).1 h; omega
      exact not_before h1 (hn x (List.mem_of_getElem? hj))
def stale (k x : Kept) : Prop := k.version < x.version ∨ x.version = k.version ∧ k.since < x.since
instance (k x : Kept) : Decidable (stale k x) := by unfold stale; infer_instance
def isStale (l : List Kept) (k : Kept) : Bool := match idx k.object k.chunk l with
  | some i => match l[i]? with
    | some x => decide (stale k x)
    | none => false
  | none => false
def now' (c : Cache) (k : Kept) : Kept := { k with used := c.now }
def put (c : Cache) (k : Kept) : Cache × List Kept × Int :=
  if check c ≠ 0 then (c, [], check c) else if ¬ Right k c.now then (c, [], 1) else if k.last < c.now then (c, [], 18) else if isStale c.items k = true then (c, [], 15) else if c.room < k.bytes.size then (c, [], 13)
  else (⟨c.room, c.now, (evict c.room (now' c k) (putL (now' c k) c.items).length (putL (now' c k) c.items)).1⟩, (evict c.room (now' c k) (putL (now' c k) c.items).length (putL (now' c k) c.items)).2, 0)
end Go.Proofs.Ytimapebigcmbmaa

set_option linter.unusedVariables false
set_option linter.unusedSimpArgs false
namespace Go.Proofs.Ytimapebigcmbmaa
open Go Go.AI Go.Proofs

def zC : List AC := [.int .i64 0, .int .i64 0, .list 1 7 []]
/-- What the last loop is given. -/
theorem put_pre {c : Cache} {k : Kept} (hc : c.Ok) (hg : Good c) (hk : k.Ok) (hr : Right k c.now) (hsz : ¬ c.room < k.bytes.size) :
    (putL (now' c k) c.items).Pairwise Before ∧ (∀ x ∈ putL (now' c k) c.items, x.Ok) ∧ (∀ x ∈ putL (now' c k) c.items, SameKey x (now' c k) → (x.bytes.size : Int) ≤ c.room) ∧ (putL (now' c k) c.items).length ≤ 1000001 ∧ tot (putL (now' c k) c.items) ≤ 3000000 ∧ (now' c k).Ok := by
  have hok : (now' c k).Ok := ⟨hk.object, hk.chunk, hk.version, hk.bytes, hk.since, hk.last, hc.now⟩
  have h1 := putL_len (now' c k) c.items
  have h2 := putL_tot (now' c k) c.items
  have h3 := hg.fits
  have h4 := hg.room
  have hf := hc.few
  have h5 : (now' c k).bytes.size = k.bytes.size := rfl
  refine ⟨putL_sorted hg.sorted, fun x hx => ?_, fun x hx hs => ?_, by omega, by omega, hok⟩
  · rcases putL_mem hg.sorted hx with rfl | ⟨h, _⟩
    · exact hok
    · exact hc.items x h
  · rcases putL_mem hg.sorted hx with rfl | ⟨h, hn⟩
    · omega
    · exact absurd hs hn
theorem T20 (c : Cache) (k : Kept) (hc : c.Ok) (hfew : c.items.length ≤ 999999) (hk : k.Ok) : RunsTo Try.prog 20 [.agg c.enc, .agg k.enc] [] (.tup [.agg (put c k).1.enc, .c (.list 0 7 (rowsK (put c k).2.1)), .c (.int .i64 (put c k).2.2)]) [] := by
  have h12 := T12 c hc
  have h25 := T25 k c.now hk hc.now
  have h36 := T36 c k.object k.chunk hc
  have hn := hc.few
  have hfi := fun hg : Good c => found_idx (l := c.items) (t := keyOf k.object k.chunk) hc.items (keyOf_ok _ _ hk.object hk.chunk) (fun k hk => (hg.right k hk).1.small) hg.sorted
  have hcl := fun H => Q37c c.items hn H
  have hpre := fun hg hr hsz => put_pre (k := k) hc hg hk hr hsz
  have hE := fun (hg : Good c) (hr : Right k c.now) (hsz : ¬ c.room < k.bytes.size) K hK X => E20 c zC (now' c k) (hpre hg hr hsz).2.2.2.2.2 hg.room.1 _ _ K hK _ (putL (now' c k) c.items) [] 1 (Nat.le_refl _) (hpre hg hr hsz).1 (hpre hg hr hsz).2.1 (hpre hg hr hsz).2.2.1 (by have := putL_len (now' c k) c.items; omega) (by have := (hpre hg hr hsz).2.2.2.1; simp; omega) (by have := (hpre hg hr hsz).2.2.2.2.1; omega) rfl rfl (.inl rfl) X
  refine R20 (by simp) ?_
  generalize hF : FinQ rs20 [] _ = F
  simp -implicitDefEqProofs (disch := omega) only [i20_0, i20_1, i20_2, i20_3, i20_4, i20_5, i20_6, i20_7, i20_8, i20_9, i20_10, i20_11, i20_12, i20_13, i20_14, i20_15, i20_16, i20_17, i20_18, i20_19, i20_20, i20_21, i20_22, i20_23, i20_24, i20_25, i20_26, i20_27, i20_28, i20_29, i20_30, i20_31, i20, Cache.enc, Kept.enc, zS, State.step, State.pure, State.pure.capsOf, arrGo, State.ghosts, State.ghost, State.srcRows, State.arrRows, State.pure.fillC, State.bound, State.rd, takeC, args0, State.res, State.res1, State.resS, State.resL, normS, AC.pure, splice, ↓reduceIte, Nat.reduceEqDiff, Nat.reduceLT, Nat.reduceLeDiff, Nat.reduceAdd, Nat.reduceSub, Nat.reduceMul, Int.reduceLE, Int.reduceLT, Int.reduceToNat, Int.reduceEq, Int.reduceNe, Int.reduceAdd, Int.reduceMul, Int.reducePow, Int.reduceNeg, Nat.reduceBEq, Int.reduceBNe, Int.reduceBEq, reduceCtorEq, ne_eq, IntWalk.iteOmega]
  refine call_pure h12 rfl rfl ?_
  simp -implicitDefEqProofs (disch := omega) only [i20_0, i20_1, i20_2, i20_3, i20_4, i20_5, i20_6, i20_7, i20_8, i20_9, i20_10, i20_11, i20_12, i20_13, i20_14, i20_15, i20_16, i20_17, i20_18, i20_19, i20_20, i20_21, i20_22, i20_23, i20_24, i20_25, i20_26, i20_27, i20_28, i20_29, i20_30, i20_31, i20, zS, State.step, State.pure, State.pure.capsOf, arrGo, State.ghosts, State.ghost, State.srcRows, State.arrRows, State.pure.fillC, State.bound, State.rd, takeC, args0, State.res, State.res1, State.resS, State.resL, normS, AC.pure, splice, ↓reduceIte, Nat.reduceEqDiff, Nat.reduceLT, Nat.reduceLeDiff, Nat.reduceAdd, Nat.reduceSub, Nat.reduceMul, Int.reduceLE, Int.reduceLT, Int.reduceToNat, Int.reduceEq, Int.reduceNe, Int.reduceAdd, Int.reduceMul, Int.reducePow, Int.reduceNeg, Nat.reduceBEq, Int.reduceBNe, Int.reduceBEq, reduceCtorEq, ne_eq, IntWalk.iteOmega]
  refine gCond_d (fun c1 c1' => ?_) (fun c1 c1' => ?_)
  rotate_left
  · have e : put c k = (c, [], check c) := by rw [put, if_pos c1]
    simp -implicitDefEqProofs (disch := omega) only [i20_0, i20_1, i20_2, i20_3, i20_4, i20_5, i20_6, i20_7, i20_8, i20_9, i20_10, i20_11, i20_12, i20_13, i20_14, i20_15, i20_16, i20_17, i20_18, i20_19, i20_20, i20_21, i20_22, i20_23, i20_24, i20_25, i20_26, i20_27, i20_28, i20_29, i20_30, i20_31, i20, zS, State.step, State.pure, State.pure.capsOf, arrGo, State.ghosts, State.ghost, State.srcRows, State.arrRows, State.pure.fillC, State.bound, State.rd, takeC, args0, State.res, State.res1, State.resS, State.resL, normS, AC.pure, splice, ↓reduceIte, Nat.reduceEqDiff, Nat.reduceLT, Nat.reduceLeDiff, Nat.reduceAdd, Nat.reduceSub, Nat.reduceMul, Int.reduceLE, Int.reduceLT, Int.reduceToNat, Int.reduceEq, Int.reduceNe, Int.reduceAdd, Int.reduceMul, Int.reducePow, Int.reduceNeg, Nat.reduceBEq, Int.reduceBNe, Int.reduceBEq, reduceCtorEq, ne_eq, IntWalk.iteOmega]
    subst hF
    (refine fin_pure rfl ?_ not_x_r; simp only [rs20, e, zS, State.step, State.pure, State.pure.capsOf, arrGo, State.ghosts, State.ghost, State.srcRows, State.arrRows, State.pure.fillC, State.bound, State.rd, takeC, args0, State.res, State.res1, State.resS, State.resL, normS, AC.pure, splice, ↓reduceIte, Nat.reduceEqDiff, Nat.reduceLT, Nat.reduceLeDiff, Nat.reduceAdd, Nat.reduceSub, Nat.reduceMul, Int.reduceLE, Int.reduceLT, Int.reduceToNat, Int.reduceEq, Int.reduceNe, Int.reduceAdd, Int.reduceMul, Int.reducePow, Int.reduceNeg, Nat.reduceBEq, Int.reduceBNe, Int.reduceBEq, reduceCtorEq, ne_eq, IntWalk.iteOmega])
    rfl
  have hg := check_good c1
  simp -implicitDefEqProofs (disch := omega) only [i20_0, i20_1, i20_2, i20_3, i20_4, i20_5, i20_6, i20_7, i20_8, i20_9, i20_10, i20_11, i20_12, i20_13, i20_14, i20_15, i20_16, i20_17, i20_18, i20_19, i20_20, i20_21, i20_22, i20_23, i20_24, i20_25, i20_26, i20_27, i20_28, i20_29, i20_30, i20_31, i20, zS, State.step, State.pure, State.pure.capsOf, arrGo, State.ghosts, State.ghost, State.srcRows, State.arrRows, State.pure.fillC, State.bound, State.rd, takeC, args0, State.res, State.res1, State.resS, State.resL, normS, AC.pure, splice, ↓reduceIte, Nat.reduceEqDiff, Nat.reduceLT, Nat.reduceLeDiff, Nat.reduceAdd, Nat.reduceSub, Nat.reduceMul, Int.reduceLE, Int.reduceLT, Int.reduceToNat, Int.reduceEq, Int.reduceNe, Int.reduceAdd, Int.reduceMul, Int.reducePow, Int.reduceNeg, Nat.reduceBEq, Int.reduceBNe, Int.reduceBEq, reduceCtorEq, ne_eq, IntWalk.iteOmega]
  refine call_pure h25 rfl rfl ?_
  simp -implicitDefEqProofs (disch := omega) only [i20_0, i20_1, i20_2, i20_3, i20_4, i20_5, i20_6, i20_7, i20_8, i20_9, i20_10, i20_11, i20_12, i20_13, i20_14, i20_15, i20_16, i20_17, i20_18, i20_19, i20_20, i20_21, i20_22, i20_23, i20_24, i20_25, i20_26, i20_27, i20_28, i20_29, i20_30, i20_31, i20, zS, State.step, State.pure, State.pure.capsOf, arrGo, State.ghosts, State.ghost, State.srcRows, State.arrRows, State.pure.fillC, State.bound, State.rd, takeC, args0, State.res, State.res1, State.resS, State.resL, normS, AC.pure, splice, ↓reduceIte, Nat.reduceEqDiff, Nat.reduceLT, Nat.reduceLeDiff, Nat.reduceAdd, Nat.reduceSub, Nat.reduceMul, Int.reduceLE, Int.reduceLT, Int.reduceToNat, Int.reduceEq, Int.reduceNe, Int.reduceAdd, Int.reduceMul, Int.reducePow, Int.reduceNeg, Nat.reduceBEq, Int.reduceBNe, Int.reduceBEq, reduceCtorEq, ne_eq, IntWalk.iteOmega]
  refine gCond_split (fun c2 => ?_) (fun c2 => ?_)
  rotate_left
  · have e : put c k = (c, [], 1) := by rw [put, if_neg (by simpa using c1), if_pos (of_decide_eq_false c2)]
    simp -implicitDefEqProofs (disch := omega) only [i20_0, i20_1, i20_2, i20_3, i20_4, i20_5, i20_6, i20_7, i20_8, i20_9, i20_10, i20_11, i20_12, i20_13, i20_14, i20_15, i20_16, i20_17, i20_18, i20_19, i20_20, i20_21, i20_22, i20_23, i20_24, i20_25, i20_26, i20_27, i20_28, i20_29, i20_30, i20_31, i20, zS, State.step, State.pure, State.pure.capsOf, arrGo, State.ghosts, State.ghost, State.srcRows, State.arrRows, State.pure.fillC, State.bound, State.rd, takeC, args0, State.res, State.res1, State.resS, State.resL, normS, AC.pure, splice, ↓reduceIte, Nat.reduceEqDiff, Nat.reduceLT, Nat.reduceLeDiff, Nat.reduceAdd, Nat.reduceSub, Nat.reduceMul, Int.reduceLE, Int.reduceLT, Int.reduceToNat, Int.reduceEq, Int.reduceNe, Int.reduceAdd, Int.reduceMul, Int.reducePow, Int.reduceNeg, Nat.reduceBEq, Int.reduceBNe, Int.reduceBEq, reduceCtorEq, ne_eq, IntWalk.iteOmega]
    subst hF
    (refine fin_pure rfl ?_ not_x_r; simp only [rs20, e, zS, State.step, State.pure, State.pure.capsOf, arrGo, State.ghosts, State.ghost, State.srcRows, State.arrRows, State.pure.fillC, State.bound, State.rd, takeC, args0, State.res, State.res1, State.resS, State.resL, normS, AC.pure, splice, ↓reduceIte, Nat.reduceEqDiff, Nat.reduceLT, Nat.reduceLeDiff, Nat.reduceAdd, Nat.reduceSub, Nat.reduceMul, Int.reduceLE, Int.reduceLT, Int.reduceToNat, Int.reduceEq, Int.reduceNe, Int.reduceAdd, Int.reduceMul, Int.reducePow, Int.reduceNeg, Nat.reduceBEq, Int.reduceBNe, Int.reduceBEq, reduceCtorEq, ne_eq, IntWalk.iteOmega])
    rfl
  have hr : Right k c.now := of_decide_eq_true c2
  simp -implicitDefEqProofs (disch := omega) only [i20_0, i20_1, i20_2, i20_3, i20_4, i20_5, i20_6, i20_7, i20_8, i20_9, i20_10, i20_11, i20_12, i20_13, i20_14, i20_15, i20_16, i20_17, i20_18, i20_19, i20_20, i20_21, i20_22, i20_23, i20_24, i20_25, i20_26, i20_27, i20_28, i20_29, i20_30, i20_31, i20, zS, State.step, State.pure, State.pure.capsOf, arrGo, State.ghosts, State.ghost, State.srcRows, State.arrRows, State.pure.fillC, State.bound, State.rd, takeC, args0, State.res, State.res1, State.resS, State.resL, normS, AC.pure, splice, ↓reduceIte, Nat.reduceEqDiff, Nat.reduceLT, Nat.reduceLeDiff, Nat.reduceAdd, Nat.reduceSub, Nat.reduceMul, Int.reduceLE, Int.reduceLT, Int.reduceToNat, Int.reduceEq, Int.reduceNe, Int.reduceAdd, Int.reduceMul, Int.reducePow, Int.reduceNeg, Nat.reduceBEq, Int.reduceBNe, Int.reduceBEq, reduceCtorEq, ne_eq, IntWalk.iteOmega]
  refine gCond_d (fun c3 c3' => ?_) (fun c3 c3' => ?_)
  · have e : put c k = (c, [], 18) := by rw [put, if_neg (by simpa using c1), if_neg (by simpa using hr), if_pos c3]
    simp -implicitDefEqProofs (disch := omega) only [i20_0, i20_1, i20_2, i20_3, i20_4, i20_5, i20_6, i20_7, i20_8, i20_9, i20_10, i20_11, i20_12, i20_13, i20_14, i20_15, i20_16, i20_17, i20_18, i20_19, i20_20, i20_21, i20_22, i20_23, i20_24, i20_25, i20_26, i20_27, i20_28, i20_29, i20_30, i20_31, i20, zS, State.step, State.pure, State.pure.capsOf, arrGo, State.ghosts, State.ghost, State.srcRows, State.arrRows, State.pure.fillC, State.bound, State.rd, takeC, args0, State.res, State.res1, State.resS, State.resL, normS, AC.pure, splice, ↓reduceIte, Nat.reduceEqDiff, Nat.reduceLT, Nat.reduceLeDiff, Nat.reduceAdd, Nat.reduceSub, Nat.reduceMul, Int.reduceLE, Int.reduceLT, Int.reduceToNat, Int.reduceEq, Int.reduceNe, Int.reduceAdd, Int.reduceMul, Int.reducePow, Int.reduceNeg, Nat.reduceBEq, Int.reduceBNe, Int.reduceBEq, reduceCtorEq, ne_eq, IntWalk.iteOmega]
    subst hF
    (refine fin_pure rfl ?_ not_x_r; simp only [rs20, e, zS, State.step, State.pure, State.pure.capsOf, arrGo, State.ghosts, State.ghost, State.srcRows, State.arrRows, State.pure.fillC, State.bound, State.rd, takeC, args0, State.res, State.res1, State.resS, State.resL, normS, AC.pure, splice, ↓reduceIte, Nat.reduceEqDiff, Nat.reduceLT, Nat.reduceLeDiff, Nat.reduceAdd, Nat.reduceSub, Nat.reduceMul, Int.reduceLE, Int.reduceLT, Int.reduceToNat, Int.reduceEq, Int.reduceNe, Int.reduceAdd, Int.reduceMul, Int.reducePow, Int.reduceNeg, Nat.reduceBEq, Int.reduceBNe, Int.reduceBEq, reduceCtorEq, ne_eq, IntWalk.iteOmega])
    rfl
  obtain ⟨hf1, hf2⟩ := hfi hg
  simp -implicitDefEqProofs (disch := omega) only [i20_0, i20_1, i20_2, i20_3, i20_4, i20_5, i20_6, i20_7, i20_8, i20_9, i20_10, i20_11, i20_12, i20_13, i20_14, i20_15, i20_16, i20_17, i20_18, i20_19, i20_20, i20_21, i20_22, i20_23, i20_24, i20_25, i20_26, i20_27, i20_28, i20_29, i20_30, i20_31, i20, zS, State.step, State.pure, State.pure.capsOf, arrGo, State.ghosts, State.ghost, State.srcRows, State.arrRows, State.pure.fillC, State.bound, State.rd, takeC, args0, State.res, State.res1, State.resS, State.resL, normS, AC.pure, splice, ↓reduceIte, Nat.reduceEqDiff, Nat.reduceLT, Nat.reduceLeDiff, Nat.reduceAdd, Nat.reduceSub, Nat.reduceMul, Int.reduceLE, Int.reduceLT, Int.reduceToNat, Int.reduceEq, Int.reduceNe, Int.reduceAdd, Int.reduceMul, Int.reducePow, Int.reduceNeg, Nat.reduceBEq, Int.reduceBNe, Int.reduceBEq, reduceCtorEq, ne_eq, IntWalk.iteOmega]
  refine call_pure h36 rfl rfl ?_
  have hsm : Small (keyOf k.object k.chunk) := hr.small
  have hfp : found c.items (keyOf k.object k.chunk) = pos c.items (now' c k) := found_pos hsm (fun k hk => (hg.right k hk).1.small) hg.sorted
  have hple := pos_le c.items (now' c k)
  have hE := hE hg hr
  have hfin : ∀ (hsz : ¬ c.room < k.bytes.size) (hst : isStale c.items k = false), put c k = (⟨c.room, c.now, (evict c.room (now' c k) (putL (now' c k) c.items).length (putL (now' c k) c.items)).1⟩, (evict c.room (now' c k) (putL (now' c k) c.items).length (putL (now' c k) c.items)).2, 0) := fun hsz hst => by
    rw [put, if_neg (by simpa using c1), if_neg (by simpa using hr), if_neg c3, if_neg (by rw [hst]; simp), if_neg hsz]
  have e13 : ∀ (hsz : c.room < k.bytes.size) (hst : isStale c.items k = false), put c k = (c, [], 13) := fun hsz hst => by
    rw [put, if_neg (by simpa using c1), if_neg (by simpa using hr), if_neg c3, if_neg (by rw [hst]; simp), if_pos hsz]
  clear hpre hfi
  cases hi : idx k.object k.chunk c.items with
  | none =>
    have hst : isStale c.items k = false := by unfold isStale; rw [hi]
    have hpl : putL (now' c k) c.items = c.items.take (pos c.items (now' c k)) ++ now' c k :: c.items.drop (pos c.items (now' c k)) := by
      unfold putL; change (match idx k.object k.chunk c.items with | some i => _ | none => _) = _; rw [hi]
    have hf1' : foundB c.items (keyOf k.object k.chunk) = false := by rw [hf1]; change (idx k.object k.chunk c.items).isSome = _; rw [hi]; rfl
    clear hf1 hf2
    simp -implicitDefEqProofs (disch := omega) only [i20_0, i20_1, i20_2, i20_3, i20_4, i20_5, i20_6, i20_7, i20_8, i20_9, i20_10, i20_11, i20_12, i20_13, i20_14, i20_15, i20_16, i20_17, i20_18, i20_19, i20_20, i20_21, i20_22, i20_23, i20_24, i20_25, i20_26, i20_27, i20_28, i20_29, i20_30, i20_31, i20, hf1', zS, State.step, State.pure, State.pure.capsOf, arrGo, State.ghosts, State.ghost, State.srcRows, State.arrRows, State.pure.fillC, State.bound, State.rd, takeC, args0, State.res, State.res1, State.resS, State.resL, normS, AC.pure, splice, ↓reduceIte, Nat.reduceEqDiff, Nat.reduceLT, Nat.reduceLeDiff, Nat.reduceAdd, Nat.reduceSub, Nat.reduceMul, Int.reduceLE, Int.reduceLT, Int.reduceToNat, Int.reduceEq, Int.reduceNe, Int.reduceAdd, Int.reduceMul, Int.reducePow, Int.reduceNeg, Nat.reduceBEq, Int.reduceBNe, Int.reduceBEq, reduceCtorEq, ne_eq, IntWalk.iteOmega]
    refine gCond_d (fun c4 c4' => ?_) (fun c4 c4' => ?_)
    · have e := e13 c4 hst
      simp -implicitDefEqProofs (disch := omega) only [i20_0, i20_1, i20_2, i20_3, i20_4, i20_5, i20_6, i20_7, i20_8, i20_9, i20_10, i20_11, i20_12, i20_13, i20_14, i20_15, i20_16, i20_17, i20_18, i20_19, i20_20, i20_21, i20_22, i20_23, i20_24, i20_25, i20_26, i20_27, i20_28, i20_29, i20_30, i20_31, i20, zS, State.step, State.pure, State.pure.capsOf, arrGo, State.ghosts, State.ghost, State.srcRows, State.arrRows, State.pure.fillC, State.bound, State.rd, takeC, args0, State.res, State.res1, State.resS, State.resL, normS, AC.pure, splice, ↓reduceIte, Nat.reduceEqDiff, Nat.reduceLT, Nat.reduceLeDiff, Nat.reduceAdd, Nat.reduceSub, Nat.reduceMul, Int.reduceLE, Int.reduceLT, Int.reduceToNat, Int.reduceEq, Int.reduceNe, Int.reduceAdd, Int.reduceMul, Int.reducePow, Int.reduceNeg, Nat.reduceBEq, Int.reduceBNe, Int.reduceBEq, reduceCtorEq, ne_eq, IntWalk.iteOmega]
      subst hF
      (refine fin_pure rfl ?_ not_x_r; simp only [rs20, e, zS, State.step, State.pure, State.pure.capsOf, arrGo, State.ghosts, State.ghost, State.srcRows, State.arrRows, State.pure.fillC, State.bound, State.rd, takeC, args0, State.res, State.res1, State.resS, State.resL, normS, AC.pure, splice, ↓reduceIte, Nat.reduceEqDiff, Nat.reduceLT, Nat.reduceLeDiff, Nat.reduceAdd, Nat.reduceSub, Nat.reduceMul, Int.reduceLE, Int.reduceLT, Int.reduceToNat, Int.reduceEq, Int.reduceNe, Int.reduceAdd, Int.reduceMul, Int.reducePow, Int.reduceNeg, Nat.reduceBEq, Int.reduceBNe, Int.reduceBEq, reduceCtorEq, ne_eq, IntWalk.iteOmega])
      rfl
    have e := hfin c4 hst
    have hE := hE c4
    have hke : (now' c k).enc = [.int .i64 k.object, .int .i64 k.chunk, .int .i64 k.version, .str k.bytes, .int .i64 k.since, .int .i64 k.last, .int .i64 c.now] := rfl
    simp only [Cache.enc, hke, zC] at hE
    simp -implicitDefEqProofs (disch := omega) only [i20_0, i20_1, i20_2, i20_3, i20_4, i20_5, i20_6, i20_7, i20_8, i20_9, i20_10, i20_11, i20_12, i20_13, i20_14, i20_15, i20_16, i20_17, i20_18, i20_19, i20_20, i20_21, i20_22, i20_23, i20_24, i20_25, i20_26, i20_27, i20_28, i20_29, i20_30, i20_31, i20, zS, State.step, State.pure, State.pure.capsOf, arrGo, State.ghosts, State.ghost, State.srcRows, State.arrRows, State.pure.fillC, State.bound, State.rd, takeC, args0, State.res, State.res1, State.resS, State.resL, normS, AC.pure, splice, ↓reduceIte, Nat.reduceEqDiff, Nat.reduceLT, Nat.reduceLeDiff, Nat.reduceAdd, Nat.reduceSub, Nat.reduceMul, Int.reduceLE, Int.reduceLT, Int.reduceToNat, Int.reduceEq, Int.reduceNe, Int.reduceAdd, Int.reduceMul, Int.reducePow, Int.reduceNeg, Nat.reduceBEq, Int.reduceBNe, Int.reduceBEq, reduceCtorEq, ne_eq, IntWalk.iteOmega]
    refine call_Q (by decide) (hcl _) fun r H' hq => ?_
    rcases hq with ⟨h0, rfl, rfl⟩ | ⟨h0, extra, rfl, rfl⟩
    · refine ⟨fun h => (by cases h), ?_⟩
      have hp0 : pos c.items (now' c k) = 0 := by have := hple; rw [h0] at this ⊢; simpa using this
      have hpl0 : putL (now' c k) c.items = [now' c k] := by rw [hpl, hp0, h0]; rfl
      rw [hpl0] at hE e
      simp -implicitDefEqProofs (disch := omega) only [i20_0, i20_1, i20_2, i20_3, i20_4, i20_5, i20_6, i20_7, i20_8, i20_9, i20_10, i20_11, i20_12, i20_13, i20_14, i20_15, i20_16, i20_17, i20_18, i20_19, i20_20, i20_21, i20_22, i20_23, i20_24, i20_25, i20_26, i20_27, i20_28, i20_29, i20_30, i20_31, i20, hfp, hp0, Int.natCast_zero, zS, State.step, State.pure, State.pure.capsOf, arrGo, State.ghosts, State.ghost, State.srcRows, State.arrRows, State.pure.fillC, State.bound, State.rd, takeC, args0, State.res, State.res1, State.resS, State.resL, normS, AC.pure, splice, ↓reduceIte, Nat.reduceEqDiff, Nat.reduceLT, Nat.reduceLeDiff, Nat.reduceAdd, Nat.reduceSub, Nat.reduceMul, Int.reduceLE, Int.reduceLT, Int.reduceToNat, Int.reduceEq, Int.reduceNe, Int.reduceAdd, Int.reduceMul, Int.reducePow, Int.reduceNeg, Nat.reduceBEq, Int.reduceBNe, Int.reduceBEq, reduceCtorEq, ne_eq, IntWalk.iteOmega]
      refine call_Qs (by decide) (T38e (now' c k) _) fun r H' hq => ?_
      obtain ⟨rfl, rfl⟩ := hq
      refine ⟨fun h => (by cases h), ?_⟩
      simp -implicitDefEqProofs (disch := omega) only [i20_0, i20_1, i20_2, i20_3, i20_4, i20_5, i20_6, i20_7, i20_8, i20_9, i20_10, i20_11, i20_12, i20_13, i20_14, i20_15, i20_16, i20_17, i20_18, i20_19, i20_20, i20_21, i20_22, i20_23, i20_24, i20_25, i20_26, i20_27, i20_28, i20_29, i20_30, i20_31, i20, zS, State.step, State.pure, State.pure.capsOf, arrGo, State.ghosts, State.ghost, State.srcRows, State.arrRows, State.pure.fillC, State.bound, State.rd, takeC, args0, State.res, State.res1, State.resS, State.resL, normS, AC.pure, splice, ↓reduceIte, Nat.reduceEqDiff, Nat.reduceLT, Nat.reduceLeDiff, Nat.reduceAdd, Nat.reduceSub, Nat.reduceMul, Int.reduceLE, Int.reduceLT, Int.reduceToNat, Int.reduceEq, Int.reduceNe, Int.reduceAdd, Int.reduceMul, Int.reducePow, Int.reduceNeg, Nat.reduceBEq, Int.reduceBNe, Int.reduceBEq, reduceCtorEq, ne_eq, IntWalk.iteOmega]
      refine hE _ (fun X lv hlv => ?_) _
      rcases hlv with rfl | rfl <;>
      · simp -implicitDefEqProofs (disch := omega) only [i20_0, i20_1, i20_2, i20_3, i20_4, i20_5, i20_6, i20_7, i20_8, i20_9, i20_10, i20_11, i20_12, i20_13, i20_14, i20_15, i20_16, i20_17, i20_18, i20_19, i20_20, i20_21, i20_22, i20_23, i20_24, i20_25, i20_26, i20_27, i20_28, i20_29, i20_30, i20_31, i20_K0, i20_K1, i20, zS, State.step, State.pure, State.pure.capsOf, arrGo, State.ghosts, State.ghost, State.srcRows, State.arrRows, State.pure.fillC, State.bound, State.rd, takeC, args0, State.res, State.res1, State.resS, State.resL, normS, AC.pure, splice, ↓reduceIte, Nat.reduceEqDiff, Nat.reduceLT, Nat.reduceLeDiff, Nat.reduceAdd, Nat.reduceSub, Nat.reduceMul, Int.reduceLE, Int.reduceLT, Int.reduceToNat, Int.reduceEq, Int.reduceNe, Int.reduceAdd, Int.reduceMul, Int.reducePow, Int.reduceNeg, Nat.reduceBEq, Int.reduceBNe, Int.reduceBEq, reduceCtorEq, ne_eq, IntWalk.iteOmega]
        subst hF
        (refine fin_pure rfl ?_ not_x_r; simp only [rs20, e, zS, State.step, State.pure, State.pure.capsOf, arrGo, State.ghosts, State.ghost, State.srcRows, State.arrRows, State.pure.fillC, State.bound, State.rd, takeC, args0, State.res, State.res1, State.resS, State.resL, normS, AC.pure, splice, ↓reduceIte, Nat.reduceEqDiff, Nat.reduceLT, Nat.reduceLeDiff, Nat.reduceAdd, Nat.reduceSub, Nat.reduceMul, Int.reduceLE, Int.reduceLT, Int.reduceToNat, Int.reduceEq, Int.reduceNe, Int.reduceAdd, Int.reduceMul, Int.reducePow, Int.reduceNeg, Nat.reduceBEq, Int.reduceBNe, Int.reduceBEq, reduceCtorEq, ne_eq, IntWalk.iteOmega])
        rfl
    · refine ⟨fun h => (by cases h), ?_⟩
      rw [hpl] at hE e
      have h38 := fun H hid => T38 c.items (now' c k) (pos c.items (now' c k)) (c.items.length + extra) 3 (List.replicate extra zK) H hid (by simp) hn hple
      simp -implicitDefEqProofs (disch := omega) only [i20_0, i20_1, i20_2, i20_3, i20_4, i20_5, i20_6, i20_7, i20_8, i20_9, i20_10, i20_11, i20_12, i20_13, i20_14, i20_15, i20_16, i20_17, i20_18, i20_19, i20_20, i20_21, i20_22, i20_23, i20_24, i20_25, i20_26, i20_27, i20_28, i20_29, i20_30, i20_31, i20, hfp, zS, State.step, State.pure, State.pure.capsOf, arrGo, State.ghosts, State.ghost, State.srcRows, State.arrRows, State.pure.fillC, State.bound, State.rd, takeC, args0, State.res, State.res1, State.resS, State.resL, normS, AC.pure, splice, ↓reduceIte, Nat.reduceEqDiff, Nat.reduceLT, Nat.reduceLeDiff, Nat.reduceAdd, Nat.reduceSub, Nat.reduceMul, Int.reduceLE, Int.reduceLT, Int.reduceToNat, Int.reduceEq, Int.reduceNe, Int.reduceAdd, Int.reduceMul, Int.reducePow, Int.reduceNeg, Nat.reduceBEq, Int.reduceBNe, Int.reduceBEq, reduceCtorEq, ne_eq, IntWalk.iteOmega]
      refine call_Q (by decide) (h38 _ rfl) fun r H' hq => ?_
      obtain ⟨rfl, b, rfl⟩ := hq
      refine ⟨fun h => (by cases h), ?_⟩
      simp -implicitDefEqProofs (disch := omega) only [i20_0, i20_1, i20_2, i20_3, i20_4, i20_5, i20_6, i20_7, i20_8, i20_9, i20_10, i20_11, i20_12, i20_13, i20_14, i20_15, i20_16, i20_17, i20_18, i20_19, i20_20, i20_21, i20_22, i20_23, i20_24, i20_25, i20_26, i20_27, i20_28, i20_29, i20_30, i20_31, i20, zS, State.step, State.pure, State.pure.capsOf, arrGo, State.ghosts, State.ghost, State.srcRows, State.arrRows, State.pure.fillC, State.bound, State.rd, takeC, args0, State.res, State.res1, State.resS, State.resL, normS, AC.pure, splice, ↓reduceIte, Nat.reduceEqDiff, Nat.reduceLT, Nat.reduceLeDiff, Nat.reduceAdd, Nat.reduceSub, Nat.reduceMul, Int.reduceLE, Int.reduceLT, Int.reduceToNat, Int.reduceEq, Int.reduceNe, Int.reduceAdd, Int.reduceMul, Int.reducePow, Int.reduceNeg, Nat.reduceBEq, Int.reduceBNe, Int.reduceBEq, reduceCtorEq, ne_eq, IntWalk.iteOmega]
      refine hE _ (fun X lv hlv => ?_) _
      rcases hlv with rfl | rfl <;>
      · simp -implicitDefEqProofs (disch := omega) only [i20_0, i20_1, i20_2, i20_3, i20_4, i20_5, i20_6, i20_7, i20_8, i20_9, i20_10, i20_11, i20_12, i20_13, i20_14, i20_15, i20_16, i20_17, i20_18, i20_19, i20_20, i20_21, i20_22, i20_23, i20_24, i20_25, i20_26, i20_27, i20_28, i20_29, i20_30, i20_31, i20_K0, i20_K1, i20, zS, State.step, State.pure, State.pure.capsOf, arrGo, State.ghosts, State.ghost, State.srcRows, State.arrRows, State.pure.fillC, State.bound, State.rd, takeC, args0, State.res, State.res1, State.resS, State.resL, normS, AC.pure, splice, ↓reduceIte, Nat.reduceEqDiff, Nat.reduceLT, Nat.reduceLeDiff, Nat.reduceAdd, Nat.reduceSub, Nat.reduceMul, Int.reduceLE, Int.reduceLT, Int.reduceToNat, Int.reduceEq, Int.reduceNe, Int.reduceAdd, Int.reduceMul, Int.reducePow, Int.reduceNeg, Nat.reduceBEq, Int.reduceBNe, Int.reduceBEq, reduceCtorEq, ne_eq, IntWalk.iteOmega]
        subst hF
        (refine fin_pure rfl ?_ not_x_r; simp only [rs20, e, zS, State.step, State.pure, State.pure.capsOf, arrGo, State.ghosts, State.ghost, State.srcRows, State.arrRows, State.pure.fillC, State.bound, State.rd, takeC, args0, State.res, State.res1, State.resS, State.resL, normS, AC.pure, splice, ↓reduceIte, Nat.reduceEqDiff, Nat.reduceLT, Nat.reduceLeDiff, Nat.reduceAdd, Nat.reduceSub, Nat.reduceMul, Int.reduceLE, Int.reduceLT, Int.reduceToNat, Int.reduceEq, Int.reduceNe, Int.reduceAdd, Int.reduceMul, Int.reducePow, Int.reduceNeg, Nat.reduceBEq, Int.reduceBNe, Int.reduceBEq, reduceCtorEq, ne_eq, IntWalk.iteOmega])
        rfl
  | some i =>
    obtain ⟨x, hx, hkey⟩ := idx_some hi
    have hx' : (rowsK c.items)[i]? = some x.enc := by simp [rowsK, hx]
    have hil : i < c.items.length := (List.getElem?_eq_some_iff.1 hx).1
    have hst : isStale c.items k = decide (stale k x) := by unfold isStale; rw [hi]; simp only [hx]
    have hpl : putL (now' c k) c.items = c.items.set i (now' c k) := by
      unfold putL; change (match idx k.object k.chunk c.items with | some i => _ | none => _) = _; rw [hi]
    have hf1' : foundB c.items (keyOf k.object k.chunk) = true := by rw [hf1]; change (idx k.object k.chunk c.items).isSome = _; rw [hi]; rfl
    have hf3 : found c.items (keyOf k.object k.chunk) = i := hf2 i hi
    have e15 : stale k x → put c k = (c, [], 15) := fun hs => by
      rw [put, if_neg (by simpa using c1), if_neg (by simpa using hr), if_neg c3, if_pos (by rw [hst]; exact decide_eq_true hs)]
    have hg1 : ∀ R, (rowsK c.items ++ R)[i]? = some x.enc := fun R => by rw [List.getElem?_append_left (by rw [rowsK_len]; exact hil), hx']
    have hg2 := fun R => set_rows c.items R i (now' c k) hil
    have hg3 : ∀ R y, ((rowsK c.items ++ R).set i y).length = c.items.length + R.length := fun R y => by simp [rowsK_len]
    have q1 : ∀ N, (c.items.length ≤ c.items.length + N) = True := fun N => eq_true (by omega)
    have q2 : ((i : Int) < (c.items.length : Int)) = True := eq_true (by omega)
    clear hf1 hf2
    have hke : (now' c k).enc = [.int .i64 k.object, .int .i64 k.chunk, .int .i64 k.version, .str k.bytes, .int .i64 k.since, .int .i64 k.last, .int .i64 c.now] := rfl
    simp only [hke] at hg2
    simp -implicitDefEqProofs (disch := omega) only [i20_0, i20_1, i20_2, i20_3, i20_4, i20_5, i20_6, i20_7, i20_8, i20_9, i20_10, i20_11, i20_12, i20_13, i20_14, i20_15, i20_16, i20_17, i20_18, i20_19, i20_20, i20_21, i20_22, i20_23, i20_24, i20_25, i20_26, i20_27, i20_28, i20_29, i20_30, i20_31, i20, hf1', hf3, hx', Kept.enc, q2, zS, State.step, State.pure, State.pure.capsOf, arrGo, State.ghosts, State.ghost, State.srcRows, State.arrRows, State.pure.fillC, State.bound, State.rd, takeC, args0, State.res, State.res1, State.resS, State.resL, normS, AC.pure, splice, ↓reduceIte, Nat.reduceEqDiff, Nat.reduceLT, Nat.reduceLeDiff, Nat.reduceAdd, Nat.reduceSub, Nat.reduceMul, Int.reduceLE, Int.reduceLT, Int.reduceToNat, Int.reduceEq, Int.reduceNe, Int.reduceAdd, Int.reduceMul, Int.reducePow, Int.reduceNeg, Nat.reduceBEq, Int.reduceBNe, Int.reduceBEq, reduceCtorEq, ne_eq, IntWalk.iteOmega]
    repeat' (first | ((with_reducible first | refine gIf_dT (fun h h' => ?_) (fun h h' => ?_) | refine gIf_dF (fun h h' => ?_) (fun h h' => ?_) | refine gCond_d (fun h h' => ?_) (fun h h' => ?_) | refine gIf_bT (fun h h' => ?_) (fun h h' => ?_) | refine gIf_bF (fun h h' => ?_) (fun h h' => ?_) | refine gCond_b (fun h h' => ?_) (fun h h' => ?_)) <;> (simp -implicitDefEqProofs (disch := omega) only [h', i20_0, i20_1, i20_2, i20_3, i20_4, i20_5, i20_6, i20_7, i20_8, i20_9, i20_10, i20_11, i20_12, i20_13, i20_14, i20_15, i20_16, i20_17, i20_18, i20_19, i20_20, i20_21, i20_22, i20_23, i20_24, i20_25, i20_26, i20_27, i20_28, i20_29, i20_30, i20_31, i20, hx', Kept.enc, q2, zS, State.step, State.pure, State.pure.capsOf, arrGo, State.ghosts, State.ghost, State.srcRows, State.arrRows, State.pure.fillC, State.bound, State.rd, takeC, args0, State.res, State.res1, State.resS, State.resL, normS, AC.pure, splice, ↓reduceIte, Nat.reduceEqDiff, Nat.reduceLT, Nat.reduceLeDiff, Nat.reduceAdd, Nat.reduceSub, Nat.reduceMul, Int.reduceLE, Int.reduceLT, Int.reduceToNat, Int.reduceEq, Int.reduceNe, Int.reduceAdd, Int.reduceMul, Int.reducePow, Int.reduceNeg, Nat.reduceBEq, Int.reduceBNe, Int.reduceBEq, reduceCtorEq, ne_eq, IntWalk.iteOmega] <;> clear h')))
    all_goals first
      | (have e := e15 (by unfold stale; omega)
         subst hF
         (refine fin_pure rfl ?_ not_x_r; simp only [rs20, e, zS, State.step, State.pure, State.pure.capsOf, arrGo, State.ghosts, State.ghost, State.srcRows, State.arrRows, State.pure.fillC, State.bound, State.rd, takeC, args0, State.res, State.res1, State.resS, State.resL, normS, AC.pure, splice, ↓reduceIte, Nat.reduceEqDiff, Nat.reduceLT, Nat.reduceLeDiff, Nat.reduceAdd, Nat.reduceSub, Nat.reduceMul, Int.reduceLE, Int.reduceLT, Int.reduceToNat, Int.reduceEq, Int.reduceNe, Int.reduceAdd, Int.reduceMul, Int.reducePow, Int.reduceNeg, Nat.reduceBEq, Int.reduceBNe, Int.reduceBEq, reduceCtorEq, ne_eq, IntWalk.iteOmega])
         rfl)
      | (have e := e13 (by omega) (by rw [hst]; exact decide_eq_false (by unfold stale; omega))
         subst hF
         (refine fin_pure rfl ?_ not_x_r; simp only [rs20, e, zS, State.step, State.pure, State.pure.capsOf, arrGo, State.ghosts, State.ghost, State.srcRows, State.arrRows, State.pure.fillC, State.bound, State.rd, takeC, args0, State.res, State.res1, State.resS, State.resL, normS, AC.pure, splice, ↓reduceIte, Nat.reduceEqDiff, Nat.reduceLT, Nat.reduceLeDiff, Nat.reduceAdd, Nat.reduceSub, Nat.reduceMul, Int.reduceLE, Int.reduceLT, Int.reduceToNat, Int.reduceEq, Int.reduceNe, Int.reduceAdd, Int.reduceMul, Int.reducePow, Int.reduceNeg, Nat.reduceBEq, Int.reduceBNe, Int.reduceBEq, reduceCtorEq, ne_eq, IntWalk.iteOmega])
         rfl)
      | skip
    all_goals
      have hsz : ¬ c.room < k.bytes.size := by omega
      have e := hfin hsz (by rw [hst]; exact decide_eq_false (by unfold stale; omega))
      have hE := hE hsz
      simp only [Cache.enc, hke, zC] at hE
      rw [hpl] at hE e
      refine call_Q (by decide) (hcl _) fun r H' hq => ?_
      rcases hq with ⟨h0, _, _⟩ | ⟨_, extra, rfl, rfl⟩
      · rw [h0] at hil; simp at hil
      · refine ⟨fun h => (by cases h), ?_⟩
        simp -implicitDefEqProofs (disch := omega) only [i20_0, i20_1, i20_2, i20_3, i20_4, i20_5, i20_6, i20_7, i20_8, i20_9, i20_10, i20_11, i20_12, i20_13, i20_14, i20_15, i20_16, i20_17, i20_18, i20_19, i20_20, i20_21, i20_22, i20_23, i20_24, i20_25, i20_26, i20_27, i20_28, i20_29, i20_30, i20_31, i20, hg1, hg2, hg3, Kept.enc, List.length_replicate, q1, q2, zS, State.step, State.pure, State.pure.capsOf, arrGo, State.ghosts, State.ghost, State.srcRows, State.arrRows, State.pure.fillC, State.bound, State.rd, takeC, args0, State.res, State.res1, State.resS, State.resL, normS, AC.pure, splice, ↓reduceIte, Nat.reduceEqDiff, Nat.reduceLT, Nat.reduceLeDiff, Nat.reduceAdd, Nat.reduceSub, Nat.reduceMul, Int.reduceLE, Int.reduceLT, Int.reduceToNat, Int.reduceEq, Int.reduceNe, Int.reduceAdd, Int.reduceMul, Int.reducePow, Int.reduceNeg, Nat.reduceBEq, Int.reduceBNe, Int.reduceBEq, reduceCtorEq, ne_eq, IntWalk.iteOmega]
        refine hE _ (fun X lv hlv => ?_) _
        rcases hlv with rfl | rfl <;>
        · simp -implicitDefEqProofs (disch := omega) only [i20_0, i20_1, i20_2, i20_3, i20_4, i20_5, i20_6, i20_7, i20_8, i20_9, i20_10, i20_11, i20_12, i20_13, i20_14, i20_15, i20_16, i20_17, i20_18, i20_19, i20_20, i20_21, i20_22, i20_23, i20_24, i20_25, i20_26, i20_27, i20_28, i20_29, i20_30, i20_31, i20_K0, i20_K1, i20, zS, State.step, State.pure, State.pure.capsOf, arrGo, State.ghosts, State.ghost, State.srcRows, State.arrRows, State.pure.fillC, State.bound, State.rd, takeC, args0, State.res, State.res1, State.resS, State.resL, normS, AC.pure, splice, ↓reduceIte, Nat.reduceEqDiff, Nat.reduceLT, Nat.reduceLeDiff, Nat.reduceAdd, Nat.reduceSub, Nat.reduceMul, Int.reduceLE, Int.reduceLT, Int.reduceToNat, Int.reduceEq, Int.reduceNe, Int.reduceAdd, Int.reduceMul, Int.reducePow, Int.reduceNeg, Nat.reduceBEq, Int.reduceBNe, Int.reduceBEq, reduceCtorEq, ne_eq, IntWalk.iteOmega]
          subst hF
          (refine fin_pure rfl ?_ not_x_r; simp only [rs20, e, zS, State.step, State.pure, State.pure.capsOf, arrGo, State.ghosts, State.ghost, State.srcRows, State.arrRows, State.pure.fillC, State.bound, State.rd, takeC, args0, State.res, State.res1, State.resS, State.resL, normS, AC.pure, splice, ↓reduceIte, Nat.reduceEqDiff, Nat.reduceLT, Nat.reduceLeDiff, Nat.reduceAdd, Nat.reduceSub, Nat.reduceMul, Int.reduceLE, Int.reduceLT, Int.reduceToNat, Int.reduceEq, Int.reduceNe, Int.reduceAdd, Int.reduceMul, Int.reducePow, Int.reduceNeg, Nat.reduceBEq, Int.reduceBNe, Int.reduceBEq, reduceCtorEq, ne_eq, IntWalk.iteOmega])
          rfl
end Go.Proofs.Ytimapebigcmbmaa

set_option linter.unusedVariables false
set_option linter.unusedSimpArgs false
namespace Go.Proofs.Ytimapebigcmbmaa
open Go Go.AI Go.Proofs

/-- Where an item comes. -/
def mid (k : Kept) (l : List Kept) : Nat := match idx k.object k.chunk l with
  | some i => i
  | none => pos l k
/-- A beginning of a list with the item where it comes. -/
def ins (k : Kept) (l pre : List Kept) : List Kept := match idx k.object k.chunk l with
  | some i => pre.set i k
  | none => pre.take (pos l k) ++ k :: pre.drop (pos l k)
def acc (k : Kept) (l pre : List Kept) : List Kept := if pre.length ≤ mid k l then pre else ins k l pre
theorem ins_all (k : Kept) (l : List Kept) : ins k l l = putL k l := rfl
/-- The ways of a round. -/
theorem acc_lt {k x : Kept} {l pre post : List Kept} (hs : l.Pairwise Before) (hp : pre ++ x :: post = l) (h : pre.length < mid k l) : ¬ Before k x ∧ idxI (idx k.object k.chunk l) ≠ pre.length ∧ acc k l (pre ++ [x]) = acc k l pre ++ [x] ∧ (mid k l < pre.length + 1) = False := by
  have hx : l[pre.length]? = some x := by rw [← hp]; simp
  have hacc : acc k l (pre ++ [x]) = acc k l pre ++ [x] := by
    unfold acc; rw [if_pos (by simp; omega), if_pos (by omega)]
  unfold mid at h
  cases hi : idx k.object k.chunk l with
  | none =>
    rw [hi] at h
    simp only at h
    have := (pos_lt hs k _ x hx).2 h
    refine ⟨by unfold Before at *; omega, by simp only [idxI]; omega, hacc, eq_false (by unfold mid; rw [hi]; simp only; omega)⟩
  | some i =>
    rw [hi] at h
    obtain ⟨y, hy, hk⟩ := idx_some hi
    obtain ⟨h1, e1⟩ := List.getElem?_eq_some_iff.1 hx
    obtain ⟨h2, e2⟩ := List.getElem?_eq_some_iff.1 hy
    have := List.pairwise_iff_getElem.1 hs _ _ h1 h2 h
    rw [e1, e2] at this
    refine ⟨by unfold Before at *; unfold Key at hk; omega, by simp only [idxI]; simp only at h; omega, hacc, eq_false (by unfold mid; rw [hi]; simp only; simp only at h; omega)⟩
theorem acc_at {k x : Kept} {l pre post : List Kept} {i : Nat} (hp : pre ++ x :: post = l) (hi : idx k.object k.chunk l = some i) (h : pre.length = i) : acc k l (pre ++ [x]) = acc k l pre ++ [k] := by
  unfold acc mid ins
  rw [hi]
  simp only
  rw [if_neg (by simp; omega), if_pos (by omega), ← h]
  simp
theorem acc_in {k x : Kept} {l pre post : List Kept} (hs : l.Pairwise Before) (hp : pre ++ x :: post = l) (hi : idx k.object k.chunk l = none) (h : pre.length = pos l k) : Before k x ∧ acc k l (pre ++ [x]) = acc k l pre ++ [k] ++ [x] := by
  have hx : l[pre.length]? = some x := by rw [← hp]; simp
  constructor
  · have h1 : ¬ Before x k := fun q => by have := (pos_lt hs k _ x hx).1 q; omega
    exact not_before h1 (idx_none.1 hi x (List.mem_of_getElem? hx))
  · unfold acc mid ins
    rw [hi]
    simp only
    rw [if_neg (by simp; omega), if_pos (by omega), ← h]
    simp
theorem acc_gt {k x : Kept} {l pre : List Kept} (h : mid k l < pre.length) : acc k l (pre ++ [x]) = acc k l pre ++ [x] ∧ idxI (idx k.object k.chunk l) ≠ pre.length := by
  unfold acc mid ins at *
  cases hi : idx k.object k.chunk l with
  | none =>
    rw [hi] at h
    simp only at h ⊢
    rw [if_neg (by simp; omega), if_neg (by omega)]
    rw [List.take_append_of_le_length (by omega), List.drop_append_of_le_length (by omega)]
    exact ⟨by simp, by simp only [idxI]; omega⟩
  | some i =>
    rw [hi] at h
    simp only at h ⊢
    rw [if_neg (by simp; omega), if_neg (by omega)]
    rw [List.set_append_left _ _ h]
    exact ⟨rfl, by simp only [idxI]; omega⟩
theorem acc_end {k : Kept} {l : List Kept} : (if mid k l < l.length then acc k l l else acc k l l ++ [k]) = putL k l := by
  split
  · rename_i h
    unfold acc; rw [if_neg (by omega)]; exact ins_all k l
  · rename_i h
    unfold acc; rw [if_pos (by omega)]
    unfold mid at h
    unfold putL
    cases hi : idx k.object k.chunk l with
    | none =>
      rw [hi] at h
      have := pos_le l k
      simp only
      simp only at h
      rw [List.take_of_length_le (by omega), List.drop_of_length_le (by omega)]
    | some i =>
      rw [hi] at h
      obtain ⟨y, hy, _⟩ := idx_some hi
      have := (List.getElem?_eq_some_iff.1 hy).1
      simp only at h; omega
theorem acc_len (k : Kept) (l pre : List Kept) : (acc k l pre).length ≤ pre.length + 1 := by
  unfold acc ins
  split
  · omega
  · split
    · simp
    · simp; omega
end Go.Proofs.Ytimapebigcmbmaa

set_option linter.unusedVariables false
set_option linter.unusedSimpArgs false
namespace Go.Proofs.Ytimapebigcmbmaa
open Go Go.AI Go.Proofs

/-- The frame of the specification's Put. -/
def fr33 (c : Cache) (k : Kept) : List Blk := [.cells c.enc, .cells k.enc, .cells zM]
theorem B33 (c : Cache) (k : Kept) (hn : c.items.length ≤ 1000000) (hs : c.items.Pairwise Before) (K : AX → State → Prop)
    (hK : ∀ lv j, lv = 1 ∨ lv = 2 → K (.x 0) ⟨[(2, .c (.ptr (some (0, 0)))), (3, .c (.ptr (some (1, 0)))), (4, .c (.ptr (some (2, 0)))), (7, .c (.int .i64 (idxI (idx k.object k.chunk c.items)))), (8, .c (.list lv 7 (rowsK (acc k c.items c.items)))), (9, .c (.bool (decide (mid k c.items < c.items.length)))), (10, .c (.int .i64 j)), (97, .c (.bool false))], fr33 c k⟩) :
    ∀ (post pre : List Kept) (lv : Nat), pre ++ post = c.items → lv = 1 ∨ lv = 2 → (IR.loop [] i33_L0).go Try.prog ⟨[(2, .c (.ptr (some (0, 0)))), (3, .c (.ptr (some (1, 0)))), (4, .c (.ptr (some (2, 0)))), (7, .c (.int .i64 (idxI (idx k.object k.chunk c.items)))), (8, .c (.list lv 7 (rowsK (acc k c.items pre)))), (9, .c (.bool (decide (mid k c.items < pre.length)))), (10, .c (.int .i64 pre.length))], fr33 c k⟩ K := by
  intro post
  induction post with
  | nil =>
    intro pre lv hp hlv
    have hl : c.items = pre := by simpa using hp.symm
    have hlen : c.items.length = pre.length := by rw [hl]
    have hK := hK lv pre.length hlv
    rw [hlen] at hK
    rw [show acc k c.items pre = acc k c.items c.items by rw [← hl]]
    simp only [fr33, Cache.enc, Kept.enc, zM] at hK
    refine go_loop fun L hL => ?_
    rcases hlv with rfl | rfl <;>
    · simp -implicitDefEqProofs (disch := omega) only [i33_0, i33_1, i33_2, i33_3, i33_4, i33_5, i33_6, i33_7, i33_8, i33_9, i33_10, i33_11, i33_12, i33_13, i33_14, i33_15, i33_16, i33_17, i33_18, i33_19, i33_20, i33_21, i33_22, i33_23, i33_24, i33_25, i33_26, i33_27, i33_28, i33_29, i33_30, i33_31, i33_32, i33_33, i33_34, i33_35, i33_36, i33_37, i33_38, i33_39, i33_K0, i33_K1, i33_K2, i33, i33_L0, rowsK_len, hlen, fr33, Cache.enc, Kept.enc, zM, zS, State.step, State.pure, State.pure.capsOf, arrGo, State.ghosts, State.ghost, State.srcRows, State.arrRows, State.pure.fillC, State.bound, State.rd, takeC, args0, State.res, State.res1, State.resS, State.resL, normS, AC.pure, splice, ↓reduceIte, Nat.reduceEqDiff, Nat.reduceLT, Nat.reduceLeDiff, Nat.reduceAdd, Nat.reduceSub, Nat.reduceMul, Int.reduceLE, Int.reduceLT, Int.reduceToNat, Int.reduceEq, Int.reduceNe, Int.reduceAdd, Int.reduceMul, Int.reducePow, Int.reduceNeg, Nat.reduceBEq, Int.reduceBNe, Int.reduceBEq, reduceCtorEq, ne_eq, IntWalk.iteOmega]
      rw [hL]; exact hK
  | cons x post ih =>
    intro pre lv hp hlv
    have hget := row_at hp
    have hlt : (pre.length : Int) < c.items.length := by rw [← hp]; simp; omega
    have h29 := T29 k x
    have hal := acc_len k c.items pre
    have hpl : pre.length ≤ c.items.length := by rw [← hp]; simp
    have hral : (rowsK (acc k c.items pre)).length = (acc k c.items pre).length := rowsK_len _
    have hN := ih (pre ++ [x]) 2 (by rw [← hp]; simp) (.inr rfl)
    simp only [List.length_append, List.length_cons, List.length_nil, Nat.zero_add] at hN
    have hsnx := rowsK_snoc (acc k c.items pre) x
    have hsnk := rowsK_snoc (acc k c.items pre) k
    have hsnkx := rowsK_snoc (acc k c.items pre ++ [k]) x
    simp only [Kept.enc] at hsnx hsnk hsnkx
    have hal2 : (acc k c.items pre).length ≤ 1000001 := by omega
    rcases Nat.lt_trichotomy pre.length (mid k c.items) with hm | hm | hm
    · obtain ⟨g1, g2, g3, g4⟩ := acc_lt hs hp hm
      have g1' : before k x = false := decide_eq_false g1
      have g2' : ((pre.length : Int) = idxI (idx k.object k.chunk c.items)) = False := eq_false (fun e => g2 e.symm)
      have g5 : (mid k c.items < pre.length) = False := eq_false (by omega)
      rw [g3] at hN
      simp only [g4, decide_false, fr33, Cache.enc, Kept.enc, zM] at hN
      clear ih hs hp
      refine go_loop fun L hL => ?_
      rcases hlv with rfl | rfl <;>
      · simp -implicitDefEqProofs (disch := omega) only [i33_0, i33_1, i33_2, i33_3, i33_4, i33_5, i33_6, i33_7, i33_8, i33_9, i33_10, i33_11, i33_12, i33_13, i33_14, i33_15, i33_16, i33_17, i33_18, i33_19, i33_20, i33_21, i33_22, i33_23, i33_24, i33_25, i33_26, i33_27, i33_28, i33_29, i33_30, i33_31, i33_32, i33_33, i33_34, i33_35, i33_36, i33_37, i33_38, i33_39, i33_K0, i33_K1, i33_K2, i33, i33_L0, rowsK_len, hlt, hget, fr33, Cache.enc, Kept.enc, zM, g5, zS, State.step, State.pure, State.pure.capsOf, arrGo, State.ghosts, State.ghost, State.srcRows, State.arrRows, State.pure.fillC, State.bound, State.rd, takeC, args0, State.res, State.res1, State.resS, State.resL, normS, AC.pure, splice, ↓reduceIte, Nat.reduceEqDiff, Nat.reduceLT, Nat.reduceLeDiff, Nat.reduceAdd, Nat.reduceSub, Nat.reduceMul, Int.reduceLE, Int.reduceLT, Int.reduceToNat, Int.reduceEq, Int.reduceNe, Int.reduceAdd, Int.reduceMul, Int.reducePow, Int.reduceNeg, Nat.reduceBEq, Int.reduceBNe, Int.reduceBEq, reduceCtorEq, ne_eq, IntWalk.iteOmega]
        refine call_pure h29 rfl rfl ?_
        simp -implicitDefEqProofs (disch := omega) only [i33_0, i33_1, i33_2, i33_3, i33_4, i33_5, i33_6, i33_7, i33_8, i33_9, i33_10, i33_11, i33_12, i33_13, i33_14, i33_15, i33_16, i33_17, i33_18, i33_19, i33_20, i33_21, i33_22, i33_23, i33_24, i33_25, i33_26, i33_27, i33_28, i33_29, i33_30, i33_31, i33_32, i33_33, i33_34, i33_35, i33_36, i33_37, i33_38, i33_39, i33_K0, i33_K1, i33_K2, i33, rowsK_len, hget, Kept.enc, Cache.enc, g1', g2', hsnx, zS, State.step, State.pure, State.pure.capsOf, arrGo, State.ghosts, State.ghost, State.srcRows, State.arrRows, State.pure.fillC, State.bound, State.rd, takeC, args0, State.res, State.res1, State.resS, State.resL, normS, AC.pure, splice, ↓reduceIte, Nat.reduceEqDiff, Nat.reduceLT, Nat.reduceLeDiff, Nat.reduceAdd, Nat.reduceSub, Nat.reduceMul, Int.reduceLE, Int.reduceLT, Int.reduceToNat, Int.reduceEq, Int.reduceNe, Int.reduceAdd, Int.reduceMul, Int.reducePow, Int.reduceNeg, Nat.reduceBEq, Int.reduceBNe, Int.reduceBEq, reduceCtorEq, ne_eq, IntWalk.iteOmega]
        rw [hL]; exact hN
    · cases hi : idx k.object k.chunk c.items with
      | some i =>
        have hmi : pre.length = i := by rw [hm, mid, hi]
        have g3 := acc_at hp hi hmi
        have g2' : ((pre.length : Int) = idxI (some i)) = True := eq_true (by simp only [idxI]; omega)
        have g5 : (mid k c.items < pre.length) = False := eq_false (by omega)
        have g4 : (mid k c.items < pre.length + 1) = True := eq_true (by omega)
        rw [g3] at hN
        simp only [g4, decide_true, fr33, Cache.enc, Kept.enc, zM, hi] at hN
        clear ih hs hp
        refine go_loop fun L hL => ?_
        rcases hlv with rfl | rfl <;>
        · simp -implicitDefEqProofs (disch := omega) only [i33_0, i33_1, i33_2, i33_3, i33_4, i33_5, i33_6, i33_7, i33_8, i33_9, i33_10, i33_11, i33_12, i33_13, i33_14, i33_15, i33_16, i33_17, i33_18, i33_19, i33_20, i33_21, i33_22, i33_23, i33_24, i33_25, i33_26, i33_27, i33_28, i33_29, i33_30, i33_31, i33_32, i33_33, i33_34, i33_35, i33_36, i33_37, i33_38, i33_39, i33_K0, i33_K1, i33_K2, i33, i33_L0, rowsK_len, hlt, hget, fr33, Cache.enc, Kept.enc, zM, g5, zS, State.step, State.pure, State.pure.capsOf, arrGo, State.ghosts, State.ghost, State.srcRows, State.arrRows, State.pure.fillC, State.bound, State.rd, takeC, args0, State.res, State.res1, State.resS, State.resL, normS, AC.pure, splice, ↓reduceIte, Nat.reduceEqDiff, Nat.reduceLT, Nat.reduceLeDiff, Nat.reduceAdd, Nat.reduceSub, Nat.reduceMul, Int.reduceLE, Int.reduceLT, Int.reduceToNat, Int.reduceEq, Int.reduceNe, Int.reduceAdd, Int.reduceMul, Int.reducePow, Int.reduceNeg, Nat.reduceBEq, Int.reduceBNe, Int.reduceBEq, reduceCtorEq, ne_eq, IntWalk.iteOmega]
          refine call_pure h29 rfl rfl ?_
          simp -implicitDefEqProofs (disch := omega) only [i33_0, i33_1, i33_2, i33_3, i33_4, i33_5, i33_6, i33_7, i33_8, i33_9, i33_10, i33_11, i33_12, i33_13, i33_14, i33_15, i33_16, i33_17, i33_18, i33_19, i33_20, i33_21, i33_22, i33_23, i33_24, i33_25, i33_26, i33_27, i33_28, i33_29, i33_30, i33_31, i33_32, i33_33, i33_34, i33_35, i33_36, i33_37, i33_38, i33_39, i33_K0, i33_K1, i33_K2, i33, rowsK_len, hget, Kept.enc, Cache.enc, g2', hsnk, zS, State.step, State.pure, State.pure.capsOf, arrGo, State.ghosts, State.ghost, State.srcRows, State.arrRows, State.pure.fillC, State.bound, State.rd, takeC, args0, State.res, State.res1, State.resS, State.resL, normS, AC.pure, splice, ↓reduceIte, Nat.reduceEqDiff, Nat.reduceLT, Nat.reduceLeDiff, Nat.reduceAdd, Nat.reduceSub, Nat.reduceMul, Int.reduceLE, Int.reduceLT, Int.reduceToNat, Int.reduceEq, Int.reduceNe, Int.reduceAdd, Int.reduceMul, Int.reducePow, Int.reduceNeg, Nat.reduceBEq, Int.reduceBNe, Int.reduceBEq, reduceCtorEq, ne_eq, IntWalk.iteOmega]
          rw [hL]; exact hN
      | none =>
        have hmi : pre.length = pos c.items k := by rw [hm, mid, hi]
        obtain ⟨g1, g3⟩ := acc_in hs hp hi hmi
        have g1' : before k x = true := decide_eq_true g1
        have g2' : ((pre.length : Int) = idxI none) = False := eq_false (by simp only [idxI]; omega)
        have g5 : (mid k c.items < pre.length) = False := eq_false (by omega)
        have g4 : (mid k c.items < pre.length + 1) = True := eq_true (by omega)
        have hal3 : (acc k c.items pre ++ [k]).length ≤ 1000002 := by simp; omega
        rw [g3] at hN
        simp only [g4, decide_true, fr33, Cache.enc, Kept.enc, zM, hi] at hN
        clear ih hs hp
        refine go_loop fun L hL => ?_
        rcases hlv with rfl | rfl <;>
        · simp -implicitDefEqProofs (disch := omega) only [i33_0, i33_1, i33_2, i33_3, i33_4, i33_5, i33_6, i33_7, i33_8, i33_9, i33_10, i33_11, i33_12, i33_13, i33_14, i33_15, i33_16, i33_17, i33_18, i33_19, i33_20, i33_21, i33_22, i33_23, i33_24, i33_25, i33_26, i33_27, i33_28, i33_29, i33_30, i33_31, i33_32, i33_33, i33_34, i33_35, i33_36, i33_37, i33_38, i33_39, i33_K0, i33_K1, i33_K2, i33, i33_L0, rowsK_len, hlt, hget, fr33, Cache.enc, Kept.enc, zM, g5, zS, State.step, State.pure, State.pure.capsOf, arrGo, State.ghosts, State.ghost, State.srcRows, State.arrRows, State.pure.fillC, State.bound, State.rd, takeC, args0, State.res, State.res1, State.resS, State.resL, normS, AC.pure, splice, ↓reduceIte, Nat.reduceEqDiff, Nat.reduceLT, Nat.reduceLeDiff, Nat.reduceAdd, Nat.reduceSub, Nat.reduceMul, Int.reduceLE, Int.reduceLT, Int.reduceToNat, Int.reduceEq, Int.reduceNe, Int.reduceAdd, Int.reduceMul, Int.reducePow, Int.reduceNeg, Nat.reduceBEq, Int.reduceBNe, Int.reduceBEq, reduceCtorEq, ne_eq, IntWalk.iteOmega]
          refine call_pure h29 rfl rfl ?_
          simp -implicitDefEqProofs (disch := omega) only [i33_0, i33_1, i33_2, i33_3, i33_4, i33_5, i33_6, i33_7, i33_8, i33_9, i33_10, i33_11, i33_12, i33_13, i33_14, i33_15, i33_16, i33_17, i33_18, i33_19, i33_20, i33_21, i33_22, i33_23, i33_24, i33_25, i33_26, i33_27, i33_28, i33_29, i33_30, i33_31, i33_32, i33_33, i33_34, i33_35, i33_36, i33_37, i33_38, i33_39, i33_K0, i33_K1, i33_K2, i33, rowsK_len, hget, Kept.enc, Cache.enc, g1', g2', hsnk, hsnkx, zS, State.step, State.pure, State.pure.capsOf, arrGo, State.ghosts, State.ghost, State.srcRows, State.arrRows, State.pure.fillC, State.bound, State.rd, takeC, args0, State.res, State.res1, State.resS, State.resL, normS, AC.pure, splice, ↓reduceIte, Nat.reduceEqDiff, Nat.reduceLT, Nat.reduceLeDiff, Nat.reduceAdd, Nat.reduceSub, Nat.reduceMul, Int.reduceLE, Int.reduceLT, Int.reduceToNat, Int.reduceEq, Int.reduceNe, Int.reduceAdd, Int.reduceMul, Int.reducePow, Int.reduceNeg, Nat.reduceBEq, Int.reduceBNe, Int.reduceBEq, reduceCtorEq, ne_eq, IntWalk.iteOmega]
          rw [hL]; exact hN
    · obtain ⟨g3, g2⟩ := acc_gt (x := x) hm
      have g2' : ((pre.length : Int) = idxI (idx k.object k.chunk c.items)) = False := eq_false (fun e => g2 e.symm)
      have g5 : (mid k c.items < pre.length) = True := eq_true hm
      have g4 : (mid k c.items < pre.length + 1) = True := eq_true (by omega)
      rw [g3] at hN
      simp only [g4, decide_true, fr33, Cache.enc, Kept.enc, zM] at hN
      clear ih hs hp
      refine go_loop fun L hL => ?_
      rcases hlv with rfl | rfl <;>
      · simp -implicitDefEqProofs (disch := omega) only [i33_0, i33_1, i33_2, i33_3, i33_4, i33_5, i33_6, i33_7, i33_8, i33_9, i33_10, i33_11, i33_12, i33_13, i33_14, i33_15, i33_16, i33_17, i33_18, i33_19, i33_20, i33_21, i33_22, i33_23, i33_24, i33_25, i33_26, i33_27, i33_28, i33_29, i33_30, i33_31, i33_32, i33_33, i33_34, i33_35, i33_36, i33_37, i33_38, i33_39, i33_K0, i33_K1, i33_K2, i33, i33_L0, rowsK_len, hlt, hget, fr33, Cache.enc, Kept.enc, zM, g5, zS, State.step, State.pure, State.pure.capsOf, arrGo, State.ghosts, State.ghost, State.srcRows, State.arrRows, State.pure.fillC, State.bound, State.rd, takeC, args0, State.res, State.res1, State.resS, State.resL, normS, AC.pure, splice, ↓reduceIte, Nat.reduceEqDiff, Nat.reduceLT, Nat.reduceLeDiff, Nat.reduceAdd, Nat.reduceSub, Nat.reduceMul, Int.reduceLE, Int.reduceLT, Int.reduceToNat, Int.reduceEq, Int.reduceNe, Int.reduceAdd, Int.reduceMul, Int.reducePow, Int.reduceNeg, Nat.reduceBEq, Int.reduceBNe, Int.reduceBEq, reduceCtorEq, ne_eq, IntWalk.iteOmega]
        refine call_pure h29 rfl rfl ?_
        simp -implicitDefEqProofs (disch := omega) only [i33_0, i33_1, i33_2, i33_3, i33_4, i33_5, i33_6, i33_7, i33_8, i33_9, i33_10, i33_11, i33_12, i33_13, i33_14, i33_15, i33_16, i33_17, i33_18, i33_19, i33_20, i33_21, i33_22, i33_23, i33_24, i33_25, i33_26, i33_27, i33_28, i33_29, i33_30, i33_31, i33_32, i33_33, i33_34, i33_35, i33_36, i33_37, i33_38, i33_39, i33_K0, i33_K1, i33_K2, i33, rowsK_len, hget, Kept.enc, Cache.enc, g2', hsnx, zS, State.step, State.pure, State.pure.capsOf, arrGo, State.ghosts, State.ghost, State.srcRows, State.arrRows, State.pure.fillC, State.bound, State.rd, takeC, args0, State.res, State.res1, State.resS, State.resL, normS, AC.pure, splice, ↓reduceIte, Nat.reduceEqDiff, Nat.reduceLT, Nat.reduceLeDiff, Nat.reduceAdd, Nat.reduceSub, Nat.reduceMul, Int.reduceLE, Int.reduceLT, Int.reduceToNat, Int.reduceEq, Int.reduceNe, Int.reduceAdd, Int.reduceMul, Int.reducePow, Int.reduceNeg, Nat.reduceBEq, Int.reduceBNe, Int.reduceBEq, reduceCtorEq, ne_eq, IntWalk.iteOmega]
        rw [hL]; exact hN
theorem I33 (c : Cache) (k : Kept) (l : List Kept) (hn : l.length ≤ 1000000) (out : AV) (lv : Nat) (hlv : lv = 1 ∨ lv = 2) (K : AX → State → Prop)
    (hK : ∀ j, K (.x 4) ⟨[(2, .c (.ptr (some (0, 0)))), (3, .c (.ptr (some (1, 0)))), (4, .c (.ptr (some (2, 0)))), (8, .c (.list lv 7 (rowsK l))), (12, out), (13, .c (.int .i64 (idx2 (oldI k l 0 none)))), (14, .c (.int .i64 j)), (146, .c (.bool false))], fr33 c k⟩) :
    ∀ (post pre : List Kept) (b : Option (Nat × Int)), pre ++ post = l → oldI k l 0 none = oldI k post pre.length b → Chosen k l pre b →
      (IR.loop [] i33_L1).go Try.prog ⟨[(2, .c (.ptr (some (0, 0)))), (3, .c (.ptr (some (1, 0)))), (4, .c (.ptr (some (2, 0)))), (8, .c (.list lv 7 (rowsK l))), (12, out), (13, .c (.int .i64 (idx2 b))), (14, .c (.int .i64 pre.length))], fr33 c k⟩ K := by
  intro post
  induction post with
  | nil =>
    intro pre b hp ho hb
    have hl : l = pre := by simpa using hp.symm
    have hK := hK pre.length
    rw [ho] at hK
    simp only [oldI, fr33, Cache.enc, Kept.enc, zM] at hK
    have hlen : l.length = pre.length := by rw [hl]
    refine go_loop fun L hL => ?_
    rcases hlv with rfl | rfl <;>
    · simp -implicitDefEqProofs (disch := omega) only [i33_0, i33_1, i33_2, i33_3, i33_4, i33_5, i33_6, i33_7, i33_8, i33_9, i33_10, i33_11, i33_12, i33_13, i33_14, i33_15, i33_16, i33_17, i33_18, i33_19, i33_20, i33_21, i33_22, i33_23, i33_24, i33_25, i33_26, i33_27, i33_28, i33_29, i33_30, i33_31, i33_32, i33_33, i33_34, i33_35, i33_36, i33_37, i33_38, i33_39, i33_K0, i33_K1, i33_K2, i33, i33_L1, rowsK_len, hlen, fr33, Cache.enc, Kept.enc, zM, zS, State.step, State.pure, State.pure.capsOf, arrGo, State.ghosts, State.ghost, State.srcRows, State.arrRows, State.pure.fillC, State.bound, State.rd, takeC, args0, State.res, State.res1, State.resS, State.resL, normS, AC.pure, splice, ↓reduceIte, Nat.reduceEqDiff, Nat.reduceLT, Nat.reduceLeDiff, Nat.reduceAdd, Nat.reduceSub, Nat.reduceMul, Int.reduceLE, Int.reduceLT, Int.reduceToNat, Int.reduceEq, Int.reduceNe, Int.reduceAdd, Int.reduceMul, Int.reducePow, Int.reduceNeg, Nat.reduceBEq, Int.reduceBNe, Int.reduceBEq, reduceCtorEq, ne_eq, IntWalk.iteOmega]
      rw [hL]; exact hK
  | cons x post ih =>
    intro pre b hp ho hb
    have hget := row_at hp
    have hlt : (pre.length : Int) < l.length := by rw [← hp]; simp; omega
    have hN := ih (pre ++ [x]) _ (by rw [← hp]; simp) (by rw [ho, oldI, List.length_append]; rfl) (chosen_step hp hb)
    simp only [List.length_append, List.length_cons, List.length_nil] at hN
    refine go_loop fun L hL => ?_
    cases b with
    | none =>
      have q1 : ((-1 : Int) < 0) = True := eq_true (by omega)
      simp only [fr33, Cache.enc, Kept.enc, zM] at hN
      clear ih ho hb
      rcases hlv with rfl | rfl <;>
      · simp -implicitDefEqProofs (disch := omega) only [i33_0, i33_1, i33_2, i33_3, i33_4, i33_5, i33_6, i33_7, i33_8, i33_9, i33_10, i33_11, i33_12, i33_13, i33_14, i33_15, i33_16, i33_17, i33_18, i33_19, i33_20, i33_21, i33_22, i33_23, i33_24, i33_25, i33_26, i33_27, i33_28, i33_29, i33_30, i33_31, i33_32, i33_33, i33_34, i33_35, i33_36, i33_37, i33_38, i33_39, i33_K0, i33_K1, i33_K2, i33, i33_L1, rowsK_len, hlt, hget, fr33, Cache.enc, Kept.enc, zM, idx2, q1, zS, State.step, State.pure, State.pure.capsOf, arrGo, State.ghosts, State.ghost, State.srcRows, State.arrRows, State.pure.fillC, State.bound, State.rd, takeC, args0, State.res, State.res1, State.resS, State.resL, normS, AC.pure, splice, ↓reduceIte, Nat.reduceEqDiff, Nat.reduceLT, Nat.reduceLeDiff, Nat.reduceAdd, Nat.reduceSub, Nat.reduceMul, Int.reduceLE, Int.reduceLT, Int.reduceToNat, Int.reduceEq, Int.reduceNe, Int.reduceAdd, Int.reduceMul, Int.reducePow, Int.reduceNeg, Nat.reduceBEq, Int.reduceBNe, Int.reduceBEq, reduceCtorEq, ne_eq, IntWalk.iteOmega]
        repeat' (first | ((with_reducible first | refine gIf_dT (fun h h' => ?_) (fun h h' => ?_) | refine gIf_dF (fun h h' => ?_) (fun h h' => ?_) | refine gCond_d (fun h h' => ?_) (fun h h' => ?_) | refine gIf_bT (fun h h' => ?_) (fun h h' => ?_) | refine gIf_bF (fun h h' => ?_) (fun h h' => ?_) | refine gCond_b (fun h h' => ?_) (fun h h' => ?_)) <;> (simp -implicitDefEqProofs (disch := omega) only [h', i33_0, i33_1, i33_2, i33_3, i33_4, i33_5, i33_6, i33_7, i33_8, i33_9, i33_10, i33_11, i33_12, i33_13, i33_14, i33_15, i33_16, i33_17, i33_18, i33_19, i33_20, i33_21, i33_22, i33_23, i33_24, i33_25, i33_26, i33_27, i33_28, i33_29, i33_30, i33_31, i33_32, i33_33, i33_34, i33_35, i33_36, i33_37, i33_38, i33_39, i33_K0, i33_K1, i33_K2, i33, rowsK_len, hlt, hget, Kept.enc, q1, zS, State.step, State.pure, State.pure.capsOf, arrGo, State.ghosts, State.ghost, State.srcRows, State.arrRows, State.pure.fillC, State.bound, State.rd, takeC, args0, State.res, State.res1, State.resS, State.resL, normS, AC.pure, splice, ↓reduceIte, Nat.reduceEqDiff, Nat.reduceLT, Nat.reduceLeDiff, Nat.reduceAdd, Nat.reduceSub, Nat.reduceMul, Int.reduceLE, Int.reduceLT, Int.reduceToNat, Int.reduceEq, Int.reduceNe, Int.reduceAdd, Int.reduceMul, Int.reducePow, Int.reduceNeg, Nat.reduceBEq, Int.reduceBNe, Int.reduceBEq, reduceCtorEq, ne_eq, IntWalk.iteOmega] <;> clear h')))
        all_goals first
          | (rw [if_neg (show ¬ Better k x none from fun h => h ⟨by assumption, by assumption⟩)] at hN; rw [hL]; exact hN)
          | (rw [if_pos (show Better k x none from fun h => by obtain ⟨h1, h2⟩ := h; simp_all)] at hN; rw [hL]; exact hN)
    | some q =>
      obtain ⟨j, u⟩ := q
      obtain ⟨hj, ⟨y, hy, rfl, _⟩, _⟩ := hb
      have hy' : (rowsK l)[j]? = some y.enc := by simp [rowsK, hy]
      have q1 : ((j : Int) < 0) = False := eq_false (by omega)
      simp only [fr33, Cache.enc, Kept.enc, zM] at hN
      clear ih ho
      rcases hlv with rfl | rfl <;>
      · simp -implicitDefEqProofs (disch := omega) only [i33_0, i33_1, i33_2, i33_3, i33_4, i33_5, i33_6, i33_7, i33_8, i33_9, i33_10, i33_11, i33_12, i33_13, i33_14, i33_15, i33_16, i33_17, i33_18, i33_19, i33_20, i33_21, i33_22, i33_23, i33_24, i33_25, i33_26, i33_27, i33_28, i33_29, i33_30, i33_31, i33_32, i33_33, i33_34, i33_35, i33_36, i33_37, i33_38, i33_39, i33_K0, i33_K1, i33_K2, i33, i33_L1, rowsK_len, hlt, hget, fr33, Cache.enc, Kept.enc, zM, idx2, q1, hy', zS, State.step, State.pure, State.pure.capsOf, arrGo, State.ghosts, State.ghost, State.srcRows, State.arrRows, State.pure.fillC, State.bound, State.rd, takeC, args0, State.res, State.res1, State.resS, State.resL, normS, AC.pure, splice, ↓reduceIte, Nat.reduceEqDiff, Nat.reduceLT, Nat.reduceLeDiff, Nat.reduceAdd, Nat.reduceSub, Nat.reduceMul, Int.reduceLE, Int.reduceLT, Int.reduceToNat, Int.reduceEq, Int.reduceNe, Int.reduceAdd, Int.reduceMul, Int.reducePow, Int.reduceNeg, Nat.reduceBEq, Int.reduceBNe, Int.reduceBEq, reduceCtorEq, ne_eq, IntWalk.iteOmega]
        repeat' (first | ((with_reducible first | refine gIf_dT (fun h h' => ?_) (fun h h' => ?_) | refine gIf_dF (fun h h' => ?_) (fun h h' => ?_) | refine gCond_d (fun h h' => ?_) (fun h h' => ?_) | refine gIf_bT (fun h h' => ?_) (fun h h' => ?_) | refine gIf_bF (fun h h' => ?_) (fun h h' => ?_) | refine gCond_b (fun h h' => ?_) (fun h h' => ?_)) <;> (simp -implicitDefEqProofs (disch := omega) only [h', i33_0, i33_1, i33_2, i33_3, i33_4, i33_5, i33_6, i33_7, i33_8, i33_9, i33_10, i33_11, i33_12, i33_13, i33_14, i33_15, i33_16, i33_17, i33_18, i33_19, i33_20, i33_21, i33_22, i33_23, i33_24, i33_25, i33_26, i33_27, i33_28, i33_29, i33_30, i33_31, i33_32, i33_33, i33_34, i33_35, i33_36, i33_37, i33_38, i33_39, i33_K0, i33_K1, i33_K2, i33, rowsK_len, hlt, hget, Kept.enc, q1, hy', zS, State.step, State.pure, State.pure.capsOf, arrGo, State.ghosts, State.ghost, State.srcRows, State.arrRows, State.pure.fillC, State.bound, State.rd, takeC, args0, State.res, State.res1, State.resS, State.resL, normS, AC.pure, splice, ↓reduceIte, Nat.reduceEqDiff, Nat.reduceLT, Nat.reduceLeDiff, Nat.reduceAdd, Nat.reduceSub, Nat.reduceMul, Int.reduceLE, Int.reduceLT, Int.reduceToNat, Int.reduceEq, Int.reduceNe, Int.reduceAdd, Int.reduceMul, Int.reducePow, Int.reduceNeg, Nat.reduceBEq, Int.reduceBNe, Int.reduceBEq, reduceCtorEq, ne_eq, IntWalk.iteOmega] <;> clear h')))
        all_goals first
          | (rw [if_neg (show ¬ Better k x (some (j, y.used)) from fun h => h.1 ⟨by assumption, by assumption⟩)] at hN; rw [hL]; exact hN)
          | (rw [if_neg (show ¬ Better k x (some (j, y.used)) from fun h => by have := h.2; omega)] at hN; rw [hL]; exact hN)
          | (rw [if_pos (show Better k x (some (j, y.used)) from ⟨fun h => by obtain ⟨h1, h2⟩ := h; simp_all, by omega⟩)] at hN; rw [hL]; exact hN)
end Go.Proofs.Ytimapebigcmbmaa
