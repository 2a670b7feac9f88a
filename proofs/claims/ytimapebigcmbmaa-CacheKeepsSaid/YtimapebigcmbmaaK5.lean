/- A part of the proofs: a verified symbolic execution of Go's code, and what each function of the program computes; no conditions of its own. -/
import Derived.Test.YtimapebigcmbmaaK4

set_option linter.unusedVariables false
set_option linter.unusedSimpArgs false
namespace Go.Proofs.Ytimapebigcmbmaa
open Go Go.AI Go.Proofs

/-! ### Items and caches -/
structure Kept where
  object : Int
  chunk : Int
  version : Int
  bytes : ByteArray
  since : Int
  last : Int
  used : Int
def I64 (n : Int) : Prop := -9223372036854775808 ≤ n ∧ n < 9223372036854775808
structure Kept.Ok (k : Kept) : Prop where
  object : I64 k.object
  chunk : I64 k.chunk
  version : I64 k.version
  bytes : k.bytes.size ≤ 1000000000000000
  since : I64 k.since
  last : I64 k.last
  used : I64 k.used
def Kept.enc (k : Kept) : List AC := [.int .i64 k.object, .int .i64 k.chunk, .int .i64 k.version, .str k.bytes, .int .i64 k.since, .int .i64 k.last, .int .i64 k.used]
def rowsK (l : List Kept) : List (List AC) := l.map Kept.enc
/-- The bytes of items. -/
def tot : List Kept → Nat
  | [] => 0
  | k :: l => k.bytes.size + tot l
structure Cache where
  room : Int
  now : Int
  items : List Kept
def Cache.enc (c : Cache) : List AC := [.int .i64 c.room, .int .i64 c.now, .list 0 7 (rowsK c.items)]
structure Cache.Ok (c : Cache) : Prop where
  room : I64 c.room
  now : I64 c.now
  items : ∀ k ∈ c.items, k.Ok
  few : c.items.length ≤ 1000000
  tot : tot c.items ≤ 1000000000000000

deriving instance DecidableEq for Kept
structure Made where
  c : Cache
  out : List Kept
  s : ByteArray
  n : Int
  e : Int
def Made.enc (m : Made) : List AC := [.int .i64 m.c.room, .int .i64 m.c.now, .list 0 7 (rowsK m.c.items), .list 0 7 (rowsK m.out), .str m.s, .int .i64 m.n, .int .i64 m.e]
structure Op where
  kind : Int
  n : Int
  k : Kept
def Op.enc (o : Op) : List AC := [.int .u8 o.kind, .int .i64 o.n, .int .i64 o.k.object, .int .i64 o.k.chunk, .int .i64 o.k.version, .str o.k.bytes, .int .i64 o.k.since, .int .i64 o.k.last, .int .i64 o.k.used]
structure Op.Ok (o : Op) : Prop where
  kind : 0 ≤ o.kind ∧ o.kind < 256
  n : I64 o.n
  k : o.k.Ok
theorem rowsK_len (l : List Kept) : (rowsK l).length = l.length := by simp [rowsK]
theorem rowsK_get (l : List Kept) (i : Nat) (h : i < l.length) : (rowsK l)[i]? = some (l[i].enc) := by simp [rowsK, h]

def Right (k : Kept) (now : Int) : Prop := 0 ≤ k.object ∧ k.object ≤ 1099511627776 ∧ 0 ≤ k.chunk ∧ k.chunk ≤ 1099511627776 ∧ 0 ≤ k.version ∧ k.version ≤ 1099511627776 ∧ k.bytes.size ≤ 4096 ∧ 0 ≤ k.since ∧ k.since ≤ now ∧ k.since ≤ k.last ∧ k.last ≤ 1000000
instance (k : Kept) (now : Int) : Decidable (Right k now) := by unfold Right; infer_instance
def Before (a b : Kept) : Prop := a.object < b.object ∨ a.object = b.object ∧ a.chunk < b.chunk
instance (a b : Kept) : Decidable (Before a b) := by unfold Before; infer_instance
def right (k : Kept) (now : Int) : Bool := decide (Right k now)
def before (a b : Kept) : Bool := decide (Before a b)
end Go.Proofs.Ytimapebigcmbmaa

set_option linter.unusedVariables false
set_option linter.unusedSimpArgs false
namespace Go.Proofs.Ytimapebigcmbmaa
open Go Go.AI Go.Proofs

theorem T42 (n : Int) (hn : I64 n) : RunsTo Try.prog 42 [.c (.int .i64 n)] [] (.c (.bool (decide (0 ≤ n ∧ n ≤ 1099511627776)))) [] := by
  obtain ⟨h1, h2⟩ := hn
  refine R42 (by simp) ?_
  simp -implicitDefEqProofs (disch := omega) only [i42_0, i42_1, i42, zS, State.step, State.pure, State.pure.capsOf, arrGo, State.ghosts, State.ghost, State.srcRows, State.arrRows, State.pure.fillC, State.bound, State.rd, takeC, args0, State.res, State.res1, State.resS, State.resL, normS, AC.pure, splice, ↓reduceIte, Nat.reduceEqDiff, Nat.reduceLT, Nat.reduceLeDiff, Nat.reduceAdd, Nat.reduceSub, Nat.reduceMul, Int.reduceLE, Int.reduceLT, Int.reduceToNat, Int.reduceEq, Int.reduceNe, Int.reduceAdd, Int.reduceMul, Int.reducePow, Int.reduceNeg, Nat.reduceBEq, Int.reduceBNe, Int.reduceBEq, reduceCtorEq, ne_eq, IntWalk.iteOmega]
  repeat' (first | ((with_reducible first | refine gIf_dT (fun h h' => ?_) (fun h h' => ?_) | refine gIf_dF (fun h h' => ?_) (fun h h' => ?_) | refine gCond_d (fun h h' => ?_) (fun h h' => ?_) | refine gIf_bT (fun h h' => ?_) (fun h h' => ?_) | refine gIf_bF (fun h h' => ?_) (fun h h' => ?_) | refine gCond_b (fun h h' => ?_) (fun h h' => ?_)) <;> (simp -implicitDefEqProofs (disch := omega) only [h', zS, State.step, State.pure, State.pure.capsOf, arrGo, State.ghosts, State.ghost, State.srcRows, State.arrRows, State.pure.fillC, State.bound, State.rd, takeC, args0, State.res, State.res1, State.resS, State.resL, normS, AC.pure, splice, ↓reduceIte, Nat.reduceEqDiff, Nat.reduceLT, Nat.reduceLeDiff, Nat.reduceAdd, Nat.reduceSub, Nat.reduceMul, Int.reduceLE, Int.reduceLT, Int.reduceToNat, Int.reduceEq, Int.reduceNe, Int.reduceAdd, Int.reduceMul, Int.reducePow, Int.reduceNeg, Nat.reduceBEq, Int.reduceBNe, Int.reduceBEq, reduceCtorEq, ne_eq, IntWalk.iteOmega] <;> clear h')))
  all_goals
    (refine fin_pure rfl ?_ not_x_r
     simp only [rs42, zS, State.step, State.pure, State.pure.capsOf, arrGo, State.ghosts, State.ghost, State.srcRows, State.arrRows, State.pure.fillC, State.bound, State.rd, takeC, args0, State.res, State.res1, State.resS, State.resL, normS, AC.pure, splice, ↓reduceIte, Nat.reduceEqDiff, Nat.reduceLT, Nat.reduceLeDiff, Nat.reduceAdd, Nat.reduceSub, Nat.reduceMul, Int.reduceLE, Int.reduceLT, Int.reduceToNat, Int.reduceEq, Int.reduceNe, Int.reduceAdd, Int.reduceMul, Int.reducePow, Int.reduceNeg, Nat.reduceBEq, Int.reduceBNe, Int.reduceBEq, reduceCtorEq, ne_eq, IntWalk.iteOmega]
     first
       | done
       | (refine congrArg (fun b => some (AV.c (AC.bool b))) ?_
          refine Bool.eq_iff_iff.2 ?_
          simp only [Bool.false_eq_true, decide_eq_true_eq, true_iff, false_iff, ]
          try simp only []
          first
            | done
            | omega
            | (simp_all; done)
            | (simp_all; omega)))
theorem T28 (k : Kept) (now : Int) (hk : k.Ok) (hn : I64 now) : RunsTo Try.prog 28 [.agg k.enc, .c (.int .i64 now)] [] (.c (.bool (right k now))) [] := by
  obtain ⟨⟨h1, h1'⟩, ⟨h2, h2'⟩, ⟨h3, h3'⟩, h4, ⟨h5, h5'⟩, ⟨h6, h6'⟩, ⟨h7, h7'⟩⟩ := hk
  obtain ⟨h8, h8'⟩ := hn
  refine R28 (by simp) ?_
  simp -implicitDefEqProofs (disch := omega) only [i28_0, i28_1, i28_2, i28_3, i28, Kept.enc, zS, State.step, State.pure, State.pure.capsOf, arrGo, State.ghosts, State.ghost, State.srcRows, State.arrRows, State.pure.fillC, State.bound, State.rd, takeC, args0, State.res, State.res1, State.resS, State.resL, normS, AC.pure, splice, ↓reduceIte, Nat.reduceEqDiff, Nat.reduceLT, Nat.reduceLeDiff, Nat.reduceAdd, Nat.reduceSub, Nat.reduceMul, Int.reduceLE, Int.reduceLT, Int.reduceToNat, Int.reduceEq, Int.reduceNe, Int.reduceAdd, Int.reduceMul, Int.reducePow, Int.reduceNeg, Nat.reduceBEq, Int.reduceBNe, Int.reduceBEq, reduceCtorEq, ne_eq, IntWalk.iteOmega]
  repeat' (first | ((with_reducible first | refine gIf_dT (fun h h' => ?_) (fun h h' => ?_) | refine gIf_dF (fun h h' => ?_) (fun h h' => ?_) | refine gCond_d (fun h h' => ?_) (fun h h' => ?_) | refine gIf_bT (fun h h' => ?_) (fun h h' => ?_) | refine gIf_bF (fun h h' => ?_) (fun h h' => ?_) | refine gCond_b (fun h h' => ?_) (fun h h' => ?_)) <;> (simp -implicitDefEqProofs (disch := omega) only [h', zS, State.step, State.pure, State.pure.capsOf, arrGo, State.ghosts, State.ghost, State.srcRows, State.arrRows, State.pure.fillC, State.bound, State.rd, takeC, args0, State.res, State.res1, State.resS, State.resL, normS, AC.pure, splice, ↓reduceIte, Nat.reduceEqDiff, Nat.reduceLT, Nat.reduceLeDiff, Nat.reduceAdd, Nat.reduceSub, Nat.reduceMul, Int.reduceLE, Int.reduceLT, Int.reduceToNat, Int.reduceEq, Int.reduceNe, Int.reduceAdd, Int.reduceMul, Int.reducePow, Int.reduceNeg, Nat.reduceBEq, Int.reduceBNe, Int.reduceBEq, reduceCtorEq, ne_eq, IntWalk.iteOmega] <;> clear h')))
  all_goals
    (refine fin_pure rfl ?_ not_x_r
     simp only [rs28, zS, State.step, State.pure, State.pure.capsOf, arrGo, State.ghosts, State.ghost, State.srcRows, State.arrRows, State.pure.fillC, State.bound, State.rd, takeC, args0, State.res, State.res1, State.resS, State.resL, normS, AC.pure, splice, ↓reduceIte, Nat.reduceEqDiff, Nat.reduceLT, Nat.reduceLeDiff, Nat.reduceAdd, Nat.reduceSub, Nat.reduceMul, Int.reduceLE, Int.reduceLT, Int.reduceToNat, Int.reduceEq, Int.reduceNe, Int.reduceAdd, Int.reduceMul, Int.reducePow, Int.reduceNeg, Nat.reduceBEq, Int.reduceBNe, Int.reduceBEq, reduceCtorEq, ne_eq, IntWalk.iteOmega]
     first
       | done
       | (refine congrArg (fun b => some (AV.c (AC.bool b))) ?_
          refine Bool.eq_iff_iff.2 ?_
          simp only [Bool.false_eq_true, decide_eq_true_eq, true_iff, false_iff, right]
          try simp only [Right]
          first
            | done
            | omega
            | (simp_all; done)
            | (simp_all; omega)))
set_option maxHeartbeats 1000000 in
theorem T25 (k : Kept) (now : Int) (hk : k.Ok) (hn : I64 now) : RunsTo Try.prog 25 [.agg k.enc, .c (.int .i64 now)] [] (.c (.bool (right k now))) [] := by
  have ho := T42 k.object hk.object
  have hc := T42 k.chunk hk.chunk
  have hv := T42 k.version hk.version
  obtain ⟨⟨h1, h1'⟩, ⟨h2, h2'⟩, ⟨h3, h3'⟩, h4, ⟨h5, h5'⟩, ⟨h6, h6'⟩, ⟨h7, h7'⟩⟩ := hk
  obtain ⟨h8, h8'⟩ := hn
  refine R25 (by simp) ?_
  simp -implicitDefEqProofs (disch := omega) only [i25_0, i25_1, i25_2, i25, Kept.enc, zS, State.step, State.pure, State.pure.capsOf, arrGo, State.ghosts, State.ghost, State.srcRows, State.arrRows, State.pure.fillC, State.bound, State.rd, takeC, args0, State.res, State.res1, State.resS, State.resL, normS, AC.pure, splice, ↓reduceIte, Nat.reduceEqDiff, Nat.reduceLT, Nat.reduceLeDiff, Nat.reduceAdd, Nat.reduceSub, Nat.reduceMul, Int.reduceLE, Int.reduceLT, Int.reduceToNat, Int.reduceEq, Int.reduceNe, Int.reduceAdd, Int.reduceMul, Int.reducePow, Int.reduceNeg, Nat.reduceBEq, Int.reduceBNe, Int.reduceBEq, reduceCtorEq, ne_eq, IntWalk.iteOmega]
  repeat' (first
    | ((with_reducible first | refine gIf_dT (fun h h' => ?_) (fun h h' => ?_) | refine gIf_dF (fun h h' => ?_) (fun h h' => ?_) | refine gCond_d (fun h h' => ?_) (fun h h' => ?_) | refine gIf_bT (fun h h' => ?_) (fun h h' => ?_) | refine gIf_bF (fun h h' => ?_) (fun h h' => ?_) | refine gCond_b (fun h h' => ?_) (fun h h' => ?_)) <;> (simp -implicitDefEqProofs (disch := omega) only [h', zS, State.step, State.pure, State.pure.capsOf, arrGo, State.ghosts, State.ghost, State.srcRows, State.arrRows, State.pure.fillC, State.bound, State.rd, takeC, args0, State.res, State.res1, State.resS, State.resL, normS, AC.pure, splice, ↓reduceIte, Nat.reduceEqDiff, Nat.reduceLT, Nat.reduceLeDiff, Nat.reduceAdd, Nat.reduceSub, Nat.reduceMul, Int.reduceLE, Int.reduceLT, Int.reduceToNat, Int.reduceEq, Int.reduceNe, Int.reduceAdd, Int.reduceMul, Int.reducePow, Int.reduceNeg, Nat.reduceBEq, Int.reduceBNe, Int.reduceBEq, reduceCtorEq, ne_eq, IntWalk.iteOmega] <;> clear h'))
    | ((with_reducible refine call_pure (ho) ?_ ?_ ?_); rfl; rfl; simp -implicitDefEqProofs (disch := omega) only [zS, State.step, State.pure, State.pure.capsOf, arrGo, State.ghosts, State.ghost, State.srcRows, State.arrRows, State.pure.fillC, State.bound, State.rd, takeC, args0, State.res, State.res1, State.resS, State.resL, normS, AC.pure, splice, ↓reduceIte, Nat.reduceEqDiff, Nat.reduceLT, Nat.reduceLeDiff, Nat.reduceAdd, Nat.reduceSub, Nat.reduceMul, Int.reduceLE, Int.reduceLT, Int.reduceToNat, Int.reduceEq, Int.reduceNe, Int.reduceAdd, Int.reduceMul, Int.reducePow, Int.reduceNeg, Nat.reduceBEq, Int.reduceBNe, Int.reduceBEq, reduceCtorEq, ne_eq, IntWalk.iteOmega])
    | ((with_reducible refine call_pure (hc) ?_ ?_ ?_); rfl; rfl; simp -implicitDefEqProofs (disch := omega) only [zS, State.step, State.pure, State.pure.capsOf, arrGo, State.ghosts, State.ghost, State.srcRows, State.arrRows, State.pure.fillC, State.bound, State.rd, takeC, args0, State.res, State.res1, State.resS, State.resL, normS, AC.pure, splice, ↓reduceIte, Nat.reduceEqDiff, Nat.reduceLT, Nat.reduceLeDiff, Nat.reduceAdd, Nat.reduceSub, Nat.reduceMul, Int.reduceLE, Int.reduceLT, Int.reduceToNat, Int.reduceEq, Int.reduceNe, Int.reduceAdd, Int.reduceMul, Int.reducePow, Int.reduceNeg, Nat.reduceBEq, Int.reduceBNe, Int.reduceBEq, reduceCtorEq, ne_eq, IntWalk.iteOmega])
    | ((with_reducible refine call_pure (hv) ?_ ?_ ?_); rfl; rfl; simp -implicitDefEqProofs (disch := omega) only [zS, State.step, State.pure, State.pure.capsOf, arrGo, State.ghosts, State.ghost, State.srcRows, State.arrRows, State.pure.fillC, State.bound, State.rd, takeC, args0, State.res, State.res1, State.resS, State.resL, normS, AC.pure, splice, ↓reduceIte, Nat.reduceEqDiff, Nat.reduceLT, Nat.reduceLeDiff, Nat.reduceAdd, Nat.reduceSub, Nat.reduceMul, Int.reduceLE, Int.reduceLT, Int.reduceToNat, Int.reduceEq, Int.reduceNe, Int.reduceAdd, Int.reduceMul, Int.reducePow, Int.reduceNeg, Nat.reduceBEq, Int.reduceBNe, Int.reduceBEq, reduceCtorEq, ne_eq, IntWalk.iteOmega]))
  all_goals
    (refine fin_pure rfl ?_ not_x_r
     simp only [rs25, zS, State.step, State.pure, State.pure.capsOf, arrGo, State.ghosts, State.ghost, State.srcRows, State.arrRows, State.pure.fillC, State.bound, State.rd, takeC, args0, State.res, State.res1, State.resS, State.resL, normS, AC.pure, splice, ↓reduceIte, Nat.reduceEqDiff, Nat.reduceLT, Nat.reduceLeDiff, Nat.reduceAdd, Nat.reduceSub, Nat.reduceMul, Int.reduceLE, Int.reduceLT, Int.reduceToNat, Int.reduceEq, Int.reduceNe, Int.reduceAdd, Int.reduceMul, Int.reducePow, Int.reduceNeg, Nat.reduceBEq, Int.reduceBNe, Int.reduceBEq, reduceCtorEq, ne_eq, IntWalk.iteOmega]
     first
       | done
       | (refine congrArg (fun b => some (AV.c (AC.bool b))) ?_
          refine Bool.eq_iff_iff.2 ?_
          simp only [Bool.false_eq_true, decide_eq_true_eq, true_iff, false_iff, right]
          try simp only [Right]
          first
            | done
            | omega
            | (simp_all; done)
            | (simp_all; omega)))
theorem T26 (a b : Kept) (ha : a.Ok) (hb : b.Ok) (h : I64 (a.object - b.object)) (h' : I64 (a.chunk - b.chunk)) : RunsTo Try.prog 26 [.agg a.enc, .agg b.enc] [] (.c (.int .i64 (if a.object = b.object then a.chunk - b.chunk else a.object - b.object))) [] := by
  obtain ⟨h1, h2⟩ := h
  obtain ⟨h3, h4⟩ := h'
  refine R26 (by simp) ?_
  simp -implicitDefEqProofs (disch := omega) only [i26_0, i26_1, i26_2, i26_3, i26, Kept.enc, zS, State.step, State.pure, State.pure.capsOf, arrGo, State.ghosts, State.ghost, State.srcRows, State.arrRows, State.pure.fillC, State.bound, State.rd, takeC, args0, State.res, State.res1, State.resS, State.resL, normS, AC.pure, splice, ↓reduceIte, Nat.reduceEqDiff, Nat.reduceLT, Nat.reduceLeDiff, Nat.reduceAdd, Nat.reduceSub, Nat.reduceMul, Int.reduceLE, Int.reduceLT, Int.reduceToNat, Int.reduceEq, Int.reduceNe, Int.reduceAdd, Int.reduceMul, Int.reducePow, Int.reduceNeg, Nat.reduceBEq, Int.reduceBNe, Int.reduceBEq, reduceCtorEq, ne_eq, IntWalk.iteOmega]
  repeat' (first | ((with_reducible first | refine gIf_dT (fun h h' => ?_) (fun h h' => ?_) | refine gIf_dF (fun h h' => ?_) (fun h h' => ?_) | refine gCond_d (fun h h' => ?_) (fun h h' => ?_) | refine gIf_bT (fun h h' => ?_) (fun h h' => ?_) | refine gIf_bF (fun h h' => ?_) (fun h h' => ?_) | refine gCond_b (fun h h' => ?_) (fun h h' => ?_)) <;> (simp -implicitDefEqProofs (disch := omega) only [h', zS, State.step, State.pure, State.pure.capsOf, arrGo, State.ghosts, State.ghost, State.srcRows, State.arrRows, State.pure.fillC, State.bound, State.rd, takeC, args0, State.res, State.res1, State.resS, State.resL, normS, AC.pure, splice, ↓reduceIte, Nat.reduceEqDiff, Nat.reduceLT, Nat.reduceLeDiff, Nat.reduceAdd, Nat.reduceSub, Nat.reduceMul, Int.reduceLE, Int.reduceLT, Int.reduceToNat, Int.reduceEq, Int.reduceNe, Int.reduceAdd, Int.reduceMul, Int.reducePow, Int.reduceNeg, Nat.reduceBEq, Int.reduceBNe, Int.reduceBEq, reduceCtorEq, ne_eq, IntWalk.iteOmega] <;> clear h')))
  all_goals
    (refine fin_pure rfl ?_ not_x_r; simp only [rs26, zS, State.step, State.pure, State.pure.capsOf, arrGo, State.ghosts, State.ghost, State.srcRows, State.arrRows, State.pure.fillC, State.bound, State.rd, takeC, args0, State.res, State.res1, State.resS, State.resL, normS, AC.pure, splice, ↓reduceIte, Nat.reduceEqDiff, Nat.reduceLT, Nat.reduceLeDiff, Nat.reduceAdd, Nat.reduceSub, Nat.reduceMul, Int.reduceLE, Int.reduceLT, Int.reduceToNat, Int.reduceEq, Int.reduceNe, Int.reduceAdd, Int.reduceMul, Int.reducePow, Int.reduceNeg, Nat.reduceBEq, Int.reduceBNe, Int.reduceBEq, reduceCtorEq, ne_eq, IntWalk.iteOmega]) <;> simp_all
theorem T29 (a b : Kept) : RunsTo Try.prog 29 [.agg a.enc, .agg b.enc] [] (.c (.bool (before a b))) [] := by
  refine R29 (by simp) ?_
  simp -implicitDefEqProofs (disch := omega) only [i29_0, i29_1, i29, Kept.enc, zS, State.step, State.pure, State.pure.capsOf, arrGo, State.ghosts, State.ghost, State.srcRows, State.arrRows, State.pure.fillC, State.bound, State.rd, takeC, args0, State.res, State.res1, State.resS, State.resL, normS, AC.pure, splice, ↓reduceIte, Nat.reduceEqDiff, Nat.reduceLT, Nat.reduceLeDiff, Nat.reduceAdd, Nat.reduceSub, Nat.reduceMul, Int.reduceLE, Int.reduceLT, Int.reduceToNat, Int.reduceEq, Int.reduceNe, Int.reduceAdd, Int.reduceMul, Int.reducePow, Int.reduceNeg, Nat.reduceBEq, Int.reduceBNe, Int.reduceBEq, reduceCtorEq, ne_eq, IntWalk.iteOmega]
  repeat' (first | ((with_reducible first | refine gIf_dT (fun h h' => ?_) (fun h h' => ?_) | refine gIf_dF (fun h h' => ?_) (fun h h' => ?_) | refine gCond_d (fun h h' => ?_) (fun h h' => ?_) | refine gIf_bT (fun h h' => ?_) (fun h h' => ?_) | refine gIf_bF (fun h h' => ?_) (fun h h' => ?_) | refine gCond_b (fun h h' => ?_) (fun h h' => ?_)) <;> (simp -implicitDefEqProofs (disch := omega) only [h', zS, State.step, State.pure, State.pure.capsOf, arrGo, State.ghosts, State.ghost, State.srcRows, State.arrRows, State.pure.fillC, State.bound, State.rd, takeC, args0, State.res, State.res1, State.resS, State.resL, normS, AC.pure, splice, ↓reduceIte, Nat.reduceEqDiff, Nat.reduceLT, Nat.reduceLeDiff, Nat.reduceAdd, Nat.reduceSub, Nat.reduceMul, Int.reduceLE, Int.reduceLT, Int.reduceToNat, Int.reduceEq, Int.reduceNe, Int.reduceAdd, Int.reduceMul, Int.reducePow, Int.reduceNeg, Nat.reduceBEq, Int.reduceBNe, Int.reduceBEq, reduceCtorEq, ne_eq, IntWalk.iteOmega] <;> clear h')))
  all_goals
    (refine fin_pure rfl ?_ not_x_r
     simp only [rs29, zS, State.step, State.pure, State.pure.capsOf, arrGo, State.ghosts, State.ghost, State.srcRows, State.arrRows, State.pure.fillC, State.bound, State.rd, takeC, args0, State.res, State.res1, State.resS, State.resL, normS, AC.pure, splice, ↓reduceIte, Nat.reduceEqDiff, Nat.reduceLT, Nat.reduceLeDiff, Nat.reduceAdd, Nat.reduceSub, Nat.reduceMul, Int.reduceLE, Int.reduceLT, Int.reduceToNat, Int.reduceEq, Int.reduceNe, Int.reduceAdd, Int.reduceMul, Int.reducePow, Int.reduceNeg, Nat.reduceBEq, Int.reduceBNe, Int.reduceBEq, reduceCtorEq, ne_eq, IntWalk.iteOmega]
     first
       | done
       | (refine congrArg (fun b => some (AV.c (AC.bool b))) ?_
          refine Bool.eq_iff_iff.2 ?_
          simp only [Bool.false_eq_true, decide_eq_true_eq, true_iff, false_iff, before]
          try simp only [Before]
          first
            | done
            | omega
            | (simp_all; done)
            | (simp_all; omega)))
end Go.Proofs.Ytimapebigcmbmaa

set_option linter.unusedVariables false
set_option linter.unusedSimpArgs false
namespace Go.Proofs.Ytimapebigcmbmaa
open Go Go.AI Go.Proofs

theorem tot_app (a b : List Kept) : tot (a ++ b) = tot a + tot b := by
  induction a with
  | nil => simp [tot]
  | cons x a ih => simp only [List.cons_append, tot, ih]; omega
theorem row_at {pre post all : List Kept} {x : Kept} (h : pre ++ x :: post = all) : (rowsK all)[pre.length]? = some x.enc := by rw [← h]; simp [rowsK]
theorem L27 (all : List Kept) (hn : all.length ≤ 1000000) (hb : tot all ≤ 1000000000000000) (K : AX → State → Prop)
    (hK : ∀ H j, K (.x 0) ⟨[(3, .c (.int .i64 (tot all))), (6, .c (.list 0 7 (rowsK all))), (7, .c (.int .i64 all.length)), (8, .c (.int .i64 j)), (9, .c (.bool false))], H⟩) :
    ∀ (post pre : List Kept), pre ++ post = all → ∀ H, (IR.loop [] i27_L0).go Try.prog ⟨[(3, .c (.int .i64 (tot pre))), (6, .c (.list 0 7 (rowsK all))), (7, .c (.int .i64 all.length)), (8, .c (.int .i64 pre.length))], H⟩ K := by
  intro post
  induction post with
  | nil =>
    intro pre hp H
    obtain rfl : pre = all := by simpa using hp
    refine go_loop fun L hL => ?_
    simp -implicitDefEqProofs (disch := omega) only [i27_0, i27_1, i27_2, i27_3, i27_4, i27_5, i27_6, i27_7, i27_K0, i27, i27_L0, zS, State.step, State.pure, State.pure.capsOf, arrGo, State.ghosts, State.ghost, State.srcRows, State.arrRows, State.pure.fillC, State.bound, State.rd, takeC, args0, State.res, State.res1, State.resS, State.resL, normS, AC.pure, splice, ↓reduceIte, Nat.reduceEqDiff, Nat.reduceLT, Nat.reduceLeDiff, Nat.reduceAdd, Nat.reduceSub, Nat.reduceMul, Int.reduceLE, Int.reduceLT, Int.reduceToNat, Int.reduceEq, Int.reduceNe, Int.reduceAdd, Int.reduceMul, Int.reducePow, Int.reduceNeg, Nat.reduceBEq, Int.reduceBNe, Int.reduceBEq, reduceCtorEq, ne_eq, IntWalk.iteOmega]
    rw [hL]; exact hK _ _
  | cons x post ih =>
    intro pre hp H
    have ih := ih (pre ++ [x]) (by rw [← hp]; simp)
    have hget := row_at hp
    have hlt : (pre.length : Int) < all.length := by rw [← hp]; simp; omega
    have hbb : tot pre + x.bytes.size ≤ tot all := by rw [← hp, tot_app, tot]; omega
    rw [tot_app] at ih
    simp only [List.length_append, List.length_cons, List.length_nil, tot] at ih
    refine go_loop fun L hL => ?_
    simp -implicitDefEqProofs (disch := omega) only [i27_0, i27_1, i27_2, i27_3, i27_4, i27_5, i27_6, i27_7, i27_K0, i27, i27_L0, hlt, hget, Kept.enc, zS, State.step, State.pure, State.pure.capsOf, arrGo, State.ghosts, State.ghost, State.srcRows, State.arrRows, State.pure.fillC, State.bound, State.rd, takeC, args0, State.res, State.res1, State.resS, State.resL, normS, AC.pure, splice, ↓reduceIte, Nat.reduceEqDiff, Nat.reduceLT, Nat.reduceLeDiff, Nat.reduceAdd, Nat.reduceSub, Nat.reduceMul, Int.reduceLE, Int.reduceLT, Int.reduceToNat, Int.reduceEq, Int.reduceNe, Int.reduceAdd, Int.reduceMul, Int.reducePow, Int.reduceNeg, Nat.reduceBEq, Int.reduceBNe, Int.reduceBEq, reduceCtorEq, ne_eq, IntWalk.iteOmega]
    rw [hL]
    exact ih _
theorem T27 (l : List Kept) (hn : l.length ≤ 1000000) (hb : tot l ≤ 1000000000000000) : RunsTo Try.prog 27 [.c (.list 0 7 (rowsK l))] [] (.c (.int .i64 (tot l))) [] := by
  refine R27 (by simp) ?_
  simp -implicitDefEqProofs (disch := omega) only [i27_0, i27_1, i27_2, i27_3, i27_4, i27_5, i27_6, i27_7, i27_K0, i27, rowsK_len, zS, State.step, State.pure, State.pure.capsOf, arrGo, State.ghosts, State.ghost, State.srcRows, State.arrRows, State.pure.fillC, State.bound, State.rd, takeC, args0, State.res, State.res1, State.resS, State.resL, normS, AC.pure, splice, ↓reduceIte, Nat.reduceEqDiff, Nat.reduceLT, Nat.reduceLeDiff, Nat.reduceAdd, Nat.reduceSub, Nat.reduceMul, Int.reduceLE, Int.reduceLT, Int.reduceToNat, Int.reduceEq, Int.reduceNe, Int.reduceAdd, Int.reduceMul, Int.reducePow, Int.reduceNeg, Nat.reduceBEq, Int.reduceBNe, Int.reduceBEq, reduceCtorEq, ne_eq, IntWalk.iteOmega]
  refine L27 l hn hb _ (fun H j => ?_) l [] rfl _
  simp -implicitDefEqProofs (disch := omega) only [zS, State.step, State.pure, State.pure.capsOf, arrGo, State.ghosts, State.ghost, State.srcRows, State.arrRows, State.pure.fillC, State.bound, State.rd, takeC, args0, State.res, State.res1, State.resS, State.resL, normS, AC.pure, splice, ↓reduceIte, Nat.reduceEqDiff, Nat.reduceLT, Nat.reduceLeDiff, Nat.reduceAdd, Nat.reduceSub, Nat.reduceMul, Int.reduceLE, Int.reduceLT, Int.reduceToNat, Int.reduceEq, Int.reduceNe, Int.reduceAdd, Int.reduceMul, Int.reducePow, Int.reduceNeg, Nat.reduceBEq, Int.reduceBNe, Int.reduceBEq, reduceCtorEq, ne_eq, IntWalk.iteOmega]
  (refine fin_pure rfl ?_ not_x_r; simp only [rs27, zS, State.step, State.pure, State.pure.capsOf, arrGo, State.ghosts, State.ghost, State.srcRows, State.arrRows, State.pure.fillC, State.bound, State.rd, takeC, args0, State.res, State.res1, State.resS, State.resL, normS, AC.pure, splice, ↓reduceIte, Nat.reduceEqDiff, Nat.reduceLT, Nat.reduceLeDiff, Nat.reduceAdd, Nat.reduceSub, Nat.reduceMul, Int.reduceLE, Int.reduceLT, Int.reduceToNat, Int.reduceEq, Int.reduceNe, Int.reduceAdd, Int.reduceMul, Int.reducePow, Int.reduceNeg, Nat.reduceBEq, Int.reduceBNe, Int.reduceBEq, reduceCtorEq, ne_eq, IntWalk.iteOmega])
theorem L30 (all : List Kept) (hn : all.length ≤ 1000000) (hb : tot all ≤ 1000000000000000) (K : AX → State → Prop)
    (hK : ∀ j, K (.x 0) ⟨[(0, .c (.list 0 7 (rowsK all))), (3, .c (.int .i64 (tot all))), (4, .c (.int .i64 j)), (8, .c (.bool false))], []⟩) :
    ∀ (post pre : List Kept), pre ++ post = all → (IR.loop [] i30_L0).go Try.prog ⟨[(0, .c (.list 0 7 (rowsK all))), (3, .c (.int .i64 (tot pre))), (4, .c (.int .i64 pre.length))], []⟩ K := by
  intro post
  induction post with
  | nil =>
    intro pre hp
    obtain rfl : pre = all := by simpa using hp
    refine go_loop fun L hL => ?_
    simp -implicitDefEqProofs (disch := omega) only [i30_0, i30_1, i30_2, i30_3, i30_4, i30_5, i30_6, i30_K0, i30, i30_L0, rowsK_len, zS, State.step, State.pure, State.pure.capsOf, arrGo, State.ghosts, State.ghost, State.srcRows, State.arrRows, State.pure.fillC, State.bound, State.rd, takeC, args0, State.res, State.res1, State.resS, State.resL, normS, AC.pure, splice, ↓reduceIte, Nat.reduceEqDiff, Nat.reduceLT, Nat.reduceLeDiff, Nat.reduceAdd, Nat.reduceSub, Nat.reduceMul, Int.reduceLE, Int.reduceLT, Int.reduceToNat, Int.reduceEq, Int.reduceNe, Int.reduceAdd, Int.reduceMul, Int.reducePow, Int.reduceNeg, Nat.reduceBEq, Int.reduceBNe, Int.reduceBEq, reduceCtorEq, ne_eq, IntWalk.iteOmega]
    rw [hL]; exact hK _
  | cons x post ih =>
    intro pre hp
    have ih := ih (pre ++ [x]) (by rw [← hp]; simp)
    have hget := row_at hp
    have hlt : (pre.length : Int) < all.length := by rw [← hp]; simp; omega
    have hbb : tot pre + x.bytes.size ≤ tot all := by rw [← hp, tot_app, tot]; omega
    rw [tot_app] at ih
    simp only [List.length_append, List.length_cons, List.length_nil, tot] at ih
    refine go_loop fun L hL => ?_
    simp -implicitDefEqProofs (disch := omega) only [i30_0, i30_1, i30_2, i30_3, i30_4, i30_5, i30_6, i30_K0, i30, i30_L0, hlt, hget, rowsK_len, Kept.enc, zS, State.step, State.pure, State.pure.capsOf, arrGo, State.ghosts, State.ghost, State.srcRows, State.arrRows, State.pure.fillC, State.bound, State.rd, takeC, args0, State.res, State.res1, State.resS, State.resL, normS, AC.pure, splice, ↓reduceIte, Nat.reduceEqDiff, Nat.reduceLT, Nat.reduceLeDiff, Nat.reduceAdd, Nat.reduceSub, Nat.reduceMul, Int.reduceLE, Int.reduceLT, Int.reduceToNat, Int.reduceEq, Int.reduceNe, Int.reduceAdd, Int.reduceMul, Int.reducePow, Int.reduceNeg, Nat.reduceBEq, Int.reduceBNe, Int.reduceBEq, reduceCtorEq, ne_eq, IntWalk.iteOmega]
    rw [hL]
    exact ih
theorem T30 (l : List Kept) (hn : l.length ≤ 1000000) (hb : tot l ≤ 1000000000000000) : RunsTo Try.prog 30 [.c (.list 0 7 (rowsK l))] [] (.c (.int .i64 (tot l))) [] := by
  refine R30 (by simp) ?_
  simp -implicitDefEqProofs (disch := omega) only [i30_0, i30_1, i30_2, i30_3, i30_4, i30_5, i30_6, i30_K0, i30, rowsK_len, zS, State.step, State.pure, State.pure.capsOf, arrGo, State.ghosts, State.ghost, State.srcRows, State.arrRows, State.pure.fillC, State.bound, State.rd, takeC, args0, State.res, State.res1, State.resS, State.resL, normS, AC.pure, splice, ↓reduceIte, Nat.reduceEqDiff, Nat.reduceLT, Nat.reduceLeDiff, Nat.reduceAdd, Nat.reduceSub, Nat.reduceMul, Int.reduceLE, Int.reduceLT, Int.reduceToNat, Int.reduceEq, Int.reduceNe, Int.reduceAdd, Int.reduceMul, Int.reducePow, Int.reduceNeg, Nat.reduceBEq, Int.reduceBNe, Int.reduceBEq, reduceCtorEq, ne_eq, IntWalk.iteOmega]
  refine L30 l hn hb _ (fun j => ?_) l [] rfl
  simp -implicitDefEqProofs (disch := omega) only [zS, State.step, State.pure, State.pure.capsOf, arrGo, State.ghosts, State.ghost, State.srcRows, State.arrRows, State.pure.fillC, State.bound, State.rd, takeC, args0, State.res, State.res1, State.resS, State.resL, normS, AC.pure, splice, ↓reduceIte, Nat.reduceEqDiff, Nat.reduceLT, Nat.reduceLeDiff, Nat.reduceAdd, Nat.reduceSub, Nat.reduceMul, Int.reduceLE, Int.reduceLT, Int.reduceToNat, Int.reduceEq, Int.reduceNe, Int.reduceAdd, Int.reduceMul, Int.reducePow, Int.reduceNeg, Nat.reduceBEq, Int.reduceBNe, Int.reduceBEq, reduceCtorEq, ne_eq, IntWalk.iteOmega]
  (refine fin_pure rfl ?_ not_x_r; simp only [rs30, zS, State.step, State.pure, State.pure.capsOf, arrGo, State.ghosts, State.ghost, State.srcRows, State.arrRows, State.pure.fillC, State.bound, State.rd, takeC, args0, State.res, State.res1, State.resS, State.resL, normS, AC.pure, splice, ↓reduceIte, Nat.reduceEqDiff, Nat.reduceLT, Nat.reduceLeDiff, Nat.reduceAdd, Nat.reduceSub, Nat.reduceMul, Int.reduceLE, Int.reduceLT, Int.reduceToNat, Int.reduceEq, Int.reduceNe, Int.reduceAdd, Int.reduceMul, Int.reducePow, Int.reduceNeg, Nat.reduceBEq, Int.reduceBNe, Int.reduceBEq, reduceCtorEq, ne_eq, IntWalk.iteOmega])
end Go.Proofs.Ytimapebigcmbmaa

set_option linter.unusedVariables false
set_option linter.unusedSimpArgs false
namespace Go.Proofs.Ytimapebigcmbmaa
open Go Go.AI Go.Proofs

theorem kept_iff (a b : Kept) : (a.object = b.object ∧ a.chunk = b.chunk ∧ a.version = b.version ∧ a.bytes = b.bytes ∧ a.since = b.since ∧ a.last = b.last ∧ a.used = b.used) ↔ a = b := by
  constructor
  · rintro ⟨h1, h2, h3, h4, h5, h6, h7⟩
    cases a; cases b; simp_all
  · rintro rfl; simp
theorem keq_fold (a b : Kept) : (decide (a.object = b.object) && (decide (a.chunk = b.chunk) && (decide (a.version = b.version) && (decide (a.bytes = b.bytes) && (decide (a.since = b.since) && (decide (a.last = b.last) && decide (a.used = b.used))))))) = decide (a = b) := by
  rw [Bool.eq_iff_iff]; simp only [Bool.and_eq_true, decide_eq_true_eq]; exact kept_iff a b
theorem L31 (all all' : List Kept) (hl : all.length = all'.length) (hn : all.length ≤ 1000000) (K : AX → State → Prop)
    (hK : ∀ j, all = all' → K (.x 0) ⟨[(0, .c (.list 0 7 (rowsK all))), (1, .c (.list 0 7 (rowsK all'))), (5, .c (.int .i64 j)), (14, .c (.bool false))], []⟩)
    (hR : all ≠ all' → K .r ⟨[(4, .c (.bool false))], []⟩) :
    ∀ (post post' pre : List Kept), pre ++ post = all → pre ++ post' = all' → (IR.loop [] i31_L0).go Try.prog ⟨[(0, .c (.list 0 7 (rowsK all))), (1, .c (.list 0 7 (rowsK all'))), (5, .c (.int .i64 pre.length))], []⟩ K := by
  intro post
  induction post with
  | nil =>
    intro post' pre hp hp'
    obtain rfl : pre = all := by simpa using hp
    have hnil : post' = [] := by
      apply List.eq_nil_of_length_eq_zero; rw [← hp'] at hl; simp at hl; simpa using hl.symm
    subst hnil
    refine go_loop fun L hL => ?_
    simp -implicitDefEqProofs (disch := omega) only [i31_0, i31_1, i31_2, i31_3, i31_4, i31_5, i31_6, i31_7, i31_8, i31_K0, i31, i31_L0, rowsK_len, zS, State.step, State.pure, State.pure.capsOf, arrGo, State.ghosts, State.ghost, State.srcRows, State.arrRows, State.pure.fillC, State.bound, State.rd, takeC, args0, State.res, State.res1, State.resS, State.resL, normS, AC.pure, splice, ↓reduceIte, Nat.reduceEqDiff, Nat.reduceLT, Nat.reduceLeDiff, Nat.reduceAdd, Nat.reduceSub, Nat.reduceMul, Int.reduceLE, Int.reduceLT, Int.reduceToNat, Int.reduceEq, Int.reduceNe, Int.reduceAdd, Int.reduceMul, Int.reducePow, Int.reduceNeg, Nat.reduceBEq, Int.reduceBNe, Int.reduceBEq, reduceCtorEq, ne_eq, IntWalk.iteOmega]
    rw [hL]; exact hK _ (by simpa using hp')
  | cons x post ih =>
    intro post' pre hp hp'
    cases post' with
    | nil => rw [← hp, ← hp'] at hl; simp at hl
    | cons x' post' =>
      have hget := row_at hp
      have hget' := row_at hp'
      have hlt : (pre.length : Int) < all.length := by rw [← hp]; simp; omega
      refine go_loop fun L hL => ?_
      have hN : x = x' → _ := fun e => ih post' (pre ++ [x]) (by rw [← hp]; simp) (by rw [← hp', e]; simp)
      have hX : x ≠ x' → all ≠ all' := fun hne e => by
        rw [← hp, ← hp'] at e
        have := List.append_cancel_left e
        injection this with h1 h2; exact hne h1
      simp only [List.length_append, List.length_cons, List.length_nil] at hN
      simp -implicitDefEqProofs (disch := omega) only [i31_0, i31_1, i31_2, i31_3, i31_4, i31_5, i31_6, i31_7, i31_8, i31_K0, i31, i31_L0, hlt, hget, hget', Kept.enc, rowsK_len, keq_fold, zS, State.step, State.pure, State.pure.capsOf, arrGo, State.ghosts, State.ghost, State.srcRows, State.arrRows, State.pure.fillC, State.bound, State.rd, takeC, args0, State.res, State.res1, State.resS, State.resL, normS, AC.pure, splice, ↓reduceIte, Nat.reduceEqDiff, Nat.reduceLT, Nat.reduceLeDiff, Nat.reduceAdd, Nat.reduceSub, Nat.reduceMul, Int.reduceLE, Int.reduceLT, Int.reduceToNat, Int.reduceEq, Int.reduceNe, Int.reduceAdd, Int.reduceMul, Int.reducePow, Int.reduceNeg, Nat.reduceBEq, Int.reduceBNe, Int.reduceBEq, reduceCtorEq, ne_eq, IntWalk.iteOmega]
      refine gCond_d (fun h h' => ?_) (fun h h' => ?_)
      · simp -implicitDefEqProofs (disch := omega) only [zS, State.step, State.pure, State.pure.capsOf, arrGo, State.ghosts, State.ghost, State.srcRows, State.arrRows, State.pure.fillC, State.bound, State.rd, takeC, args0, State.res, State.res1, State.resS, State.resL, normS, AC.pure, splice, ↓reduceIte, Nat.reduceEqDiff, Nat.reduceLT, Nat.reduceLeDiff, Nat.reduceAdd, Nat.reduceSub, Nat.reduceMul, Int.reduceLE, Int.reduceLT, Int.reduceToNat, Int.reduceEq, Int.reduceNe, Int.reduceAdd, Int.reduceMul, Int.reducePow, Int.reduceNeg, Nat.reduceBEq, Int.reduceBNe, Int.reduceBEq, reduceCtorEq, ne_eq, IntWalk.iteOmega]
        rw [hL]
        exact hN h
      · simp -implicitDefEqProofs (disch := omega) only [i31_0, i31_1, i31_2, i31_3, i31_4, i31_5, i31_6, i31_7, i31_8, i31_K0, i31, zS, State.step, State.pure, State.pure.capsOf, arrGo, State.ghosts, State.ghost, State.srcRows, State.arrRows, State.pure.fillC, State.bound, State.rd, takeC, args0, State.res, State.res1, State.resS, State.resL, normS, AC.pure, splice, ↓reduceIte, Nat.reduceEqDiff, Nat.reduceLT, Nat.reduceLeDiff, Nat.reduceAdd, Nat.reduceSub, Nat.reduceMul, Int.reduceLE, Int.reduceLT, Int.reduceToNat, Int.reduceEq, Int.reduceNe, Int.reduceAdd, Int.reduceMul, Int.reducePow, Int.reduceNeg, Nat.reduceBEq, Int.reduceBNe, Int.reduceBEq, reduceCtorEq, ne_eq, IntWalk.iteOmega]
        rw [hL]
        exact hR (hX h)
theorem T31 (a b : List Kept) (hn : a.length ≤ 1000000) : RunsTo Try.prog 31 [.c (.list 0 7 (rowsK a)), .c (.list 0 7 (rowsK b))] [] (.c (.bool (decide (a = b)))) [] := by
  refine R31 (by simp) ?_
  simp -implicitDefEqProofs (disch := omega) only [i31_0, i31_1, i31_2, i31_3, i31_4, i31_5, i31_6, i31_7, i31_8, i31_K0, i31, rowsK_len, zS, State.step, State.pure, State.pure.capsOf, arrGo, State.ghosts, State.ghost, State.srcRows, State.arrRows, State.pure.fillC, State.bound, State.rd, takeC, args0, State.res, State.res1, State.resS, State.resL, normS, AC.pure, splice, ↓reduceIte, Nat.reduceEqDiff, Nat.reduceLT, Nat.reduceLeDiff, Nat.reduceAdd, Nat.reduceSub, Nat.reduceMul, Int.reduceLE, Int.reduceLT, Int.reduceToNat, Int.reduceEq, Int.reduceNe, Int.reduceAdd, Int.reduceMul, Int.reducePow, Int.reduceNeg, Nat.reduceBEq, Int.reduceBNe, Int.reduceBEq, reduceCtorEq, ne_eq, IntWalk.iteOmega]
  refine gCond_d (fun h h' => ?_) (fun h h' => ?_)
  · simp -implicitDefEqProofs (disch := omega) only [zS, State.step, State.pure, State.pure.capsOf, arrGo, State.ghosts, State.ghost, State.srcRows, State.arrRows, State.pure.fillC, State.bound, State.rd, takeC, args0, State.res, State.res1, State.resS, State.resL, normS, AC.pure, splice, ↓reduceIte, Nat.reduceEqDiff, Nat.reduceLT, Nat.reduceLeDiff, Nat.reduceAdd, Nat.reduceSub, Nat.reduceMul, Int.reduceLE, Int.reduceLT, Int.reduceToNat, Int.reduceEq, Int.reduceNe, Int.reduceAdd, Int.reduceMul, Int.reducePow, Int.reduceNeg, Nat.reduceBEq, Int.reduceBNe, Int.reduceBEq, reduceCtorEq, ne_eq, IntWalk.iteOmega]
    refine L31 a b (by omega) hn _ (fun j e => ?_) (fun e => ?_) a b [] rfl rfl
    · simp -implicitDefEqProofs (disch := omega) only [zS, State.step, State.pure, State.pure.capsOf, arrGo, State.ghosts, State.ghost, State.srcRows, State.arrRows, State.pure.fillC, State.bound, State.rd, takeC, args0, State.res, State.res1, State.resS, State.resL, normS, AC.pure, splice, ↓reduceIte, Nat.reduceEqDiff, Nat.reduceLT, Nat.reduceLeDiff, Nat.reduceAdd, Nat.reduceSub, Nat.reduceMul, Int.reduceLE, Int.reduceLT, Int.reduceToNat, Int.reduceEq, Int.reduceNe, Int.reduceAdd, Int.reduceMul, Int.reducePow, Int.reduceNeg, Nat.reduceBEq, Int.reduceBNe, Int.reduceBEq, reduceCtorEq, ne_eq, IntWalk.iteOmega]
      (refine fin_pure rfl ?_ not_x_r; simp only [rs31, zS, State.step, State.pure, State.pure.capsOf, arrGo, State.ghosts, State.ghost, State.srcRows, State.arrRows, State.pure.fillC, State.bound, State.rd, takeC, args0, State.res, State.res1, State.resS, State.resL, normS, AC.pure, splice, ↓reduceIte, Nat.reduceEqDiff, Nat.reduceLT, Nat.reduceLeDiff, Nat.reduceAdd, Nat.reduceSub, Nat.reduceMul, Int.reduceLE, Int.reduceLT, Int.reduceToNat, Int.reduceEq, Int.reduceNe, Int.reduceAdd, Int.reduceMul, Int.reducePow, Int.reduceNeg, Nat.reduceBEq, Int.reduceBNe, Int.reduceBEq, reduceCtorEq, ne_eq, IntWalk.iteOmega])
      rw [decide_eq_true e]
    · simp -implicitDefEqProofs (disch := omega) only [zS, State.step, State.pure, State.pure.capsOf, arrGo, State.ghosts, State.ghost, State.srcRows, State.arrRows, State.pure.fillC, State.bound, State.rd, takeC, args0, State.res, State.res1, State.resS, State.resL, normS, AC.pure, splice, ↓reduceIte, Nat.reduceEqDiff, Nat.reduceLT, Nat.reduceLeDiff, Nat.reduceAdd, Nat.reduceSub, Nat.reduceMul, Int.reduceLE, Int.reduceLT, Int.reduceToNat, Int.reduceEq, Int.reduceNe, Int.reduceAdd, Int.reduceMul, Int.reducePow, Int.reduceNeg, Nat.reduceBEq, Int.reduceBNe, Int.reduceBEq, reduceCtorEq, ne_eq, IntWalk.iteOmega]
      (refine fin_pure rfl ?_ not_x_r; simp only [rs31, zS, State.step, State.pure, State.pure.capsOf, arrGo, State.ghosts, State.ghost, State.srcRows, State.arrRows, State.pure.fillC, State.bound, State.rd, takeC, args0, State.res, State.res1, State.resS, State.resL, normS, AC.pure, splice, ↓reduceIte, Nat.reduceEqDiff, Nat.reduceLT, Nat.reduceLeDiff, Nat.reduceAdd, Nat.reduceSub, Nat.reduceMul, Int.reduceLE, Int.reduceLT, Int.reduceToNat, Int.reduceEq, Int.reduceNe, Int.reduceAdd, Int.reduceMul, Int.reducePow, Int.reduceNeg, Nat.reduceBEq, Int.reduceBNe, Int.reduceBEq, reduceCtorEq, ne_eq, IntWalk.iteOmega])
      rw [decide_eq_false e]
  · simp -implicitDefEqProofs (disch := omega) only [zS, State.step, State.pure, State.pure.capsOf, arrGo, State.ghosts, State.ghost, State.srcRows, State.arrRows, State.pure.fillC, State.bound, State.rd, takeC, args0, State.res, State.res1, State.resS, State.resL, normS, AC.pure, splice, ↓reduceIte, Nat.reduceEqDiff, Nat.reduceLT, Nat.reduceLeDiff, Nat.reduceAdd, Nat.reduceSub, Nat.reduceMul, Int.reduceLE, Int.reduceLT, Int.reduceToNat, Int.reduceEq, Int.reduceNe, Int.reduceAdd, Int.reduceMul, Int.reducePow, Int.reduceNeg, Nat.reduceBEq, Int.reduceBNe, Int.reduceBEq, reduceCtorEq, ne_eq, IntWalk.iteOmega]
    have hne : a ≠ b := fun e => h (by rw [e])
    (refine fin_pure rfl ?_ not_x_r; simp only [rs31, zS, State.step, State.pure, State.pure.capsOf, arrGo, State.ghosts, State.ghost, State.srcRows, State.arrRows, State.pure.fillC, State.bound, State.rd, takeC, args0, State.res, State.res1, State.resS, State.resL, normS, AC.pure, splice, ↓reduceIte, Nat.reduceEqDiff, Nat.reduceLT, Nat.reduceLeDiff, Nat.reduceAdd, Nat.reduceSub, Nat.reduceMul, Int.reduceLE, Int.reduceLT, Int.reduceToNat, Int.reduceEq, Int.reduceNe, Int.reduceAdd, Int.reduceMul, Int.reducePow, Int.reduceNeg, Nat.reduceBEq, Int.reduceBNe, Int.reduceBEq, reduceCtorEq, ne_eq, IntWalk.iteOmega])
    rw [decide_eq_false hne]
theorem cache_iff (a b : Cache) : (a.items = b.items ∧ a.room = b.room ∧ a.now = b.now) ↔ a = b := by
  cases a; cases b; simp; constructor <;> (rintro ⟨h1, h2, h3⟩; simp [*])
deriving instance DecidableEq for Cache
theorem T14 (a b : Cache) (hn : a.items.length ≤ 1000000) : RunsTo Try.prog 14 [.agg a.enc, .agg b.enc] [] (.c (.bool (decide (a = b)))) [] := by
  have h31 := T31 a.items b.items hn
  refine R14 (by simp) ?_
  simp -implicitDefEqProofs (disch := omega) only [i14_0, i14_1, i14_2, i14, Cache.enc, zS, State.step, State.pure, State.pure.capsOf, arrGo, State.ghosts, State.ghost, State.srcRows, State.arrRows, State.pure.fillC, State.bound, State.rd, takeC, args0, State.res, State.res1, State.resS, State.resL, normS, AC.pure, splice, ↓reduceIte, Nat.reduceEqDiff, Nat.reduceLT, Nat.reduceLeDiff, Nat.reduceAdd, Nat.reduceSub, Nat.reduceMul, Int.reduceLE, Int.reduceLT, Int.reduceToNat, Int.reduceEq, Int.reduceNe, Int.reduceAdd, Int.reduceMul, Int.reducePow, Int.reduceNeg, Nat.reduceBEq, Int.reduceBNe, Int.reduceBEq, reduceCtorEq, ne_eq, IntWalk.iteOmega]
  refine call_pure h31 rfl rfl ?_
  simp -implicitDefEqProofs (disch := omega) only [zS, State.step, State.pure, State.pure.capsOf, arrGo, State.ghosts, State.ghost, State.srcRows, State.arrRows, State.pure.fillC, State.bound, State.rd, takeC, args0, State.res, State.res1, State.resS, State.resL, normS, AC.pure, splice, ↓reduceIte, Nat.reduceEqDiff, Nat.reduceLT, Nat.reduceLeDiff, Nat.reduceAdd, Nat.reduceSub, Nat.reduceMul, Int.reduceLE, Int.reduceLT, Int.reduceToNat, Int.reduceEq, Int.reduceNe, Int.reduceAdd, Int.reduceMul, Int.reducePow, Int.reduceNeg, Nat.reduceBEq, Int.reduceBNe, Int.reduceBEq, reduceCtorEq, ne_eq, IntWalk.iteOmega]
  repeat' (first | ((with_reducible first | refine gIf_dT (fun h h' => ?_) (fun h h' => ?_) | refine gIf_dF (fun h h' => ?_) (fun h h' => ?_) | refine gCond_d (fun h h' => ?_) (fun h h' => ?_) | refine gIf_bT (fun h h' => ?_) (fun h h' => ?_) | refine gIf_bF (fun h h' => ?_) (fun h h' => ?_) | refine gCond_b (fun h h' => ?_) (fun h h' => ?_)) <;> (simp -implicitDefEqProofs (disch := omega) only [h', zS, State.step, State.pure, State.pure.capsOf, arrGo, State.ghosts, State.ghost, State.srcRows, State.arrRows, State.pure.fillC, State.bound, State.rd, takeC, args0, State.res, State.res1, State.resS, State.resL, normS, AC.pure, splice, ↓reduceIte, Nat.reduceEqDiff, Nat.reduceLT, Nat.reduceLeDiff, Nat.reduceAdd, Nat.reduceSub, Nat.reduceMul, Int.reduceLE, Int.reduceLT, Int.reduceToNat, Int.reduceEq, Int.reduceNe, Int.reduceAdd, Int.reduceMul, Int.reducePow, Int.reduceNeg, Nat.reduceBEq, Int.reduceBNe, Int.reduceBEq, reduceCtorEq, ne_eq, IntWalk.iteOmega] <;> clear h')))
  all_goals
    have hc := cache_iff a b
    (refine fin_pure rfl ?_ not_x_r
     simp only [rs14, zS, State.step, State.pure, State.pure.capsOf, arrGo, State.ghosts, State.ghost, State.srcRows, State.arrRows, State.pure.fillC, State.bound, State.rd, takeC, args0, State.res, State.res1, State.resS, State.resL, normS, AC.pure, splice, ↓reduceIte, Nat.reduceEqDiff, Nat.reduceLT, Nat.reduceLeDiff, Nat.reduceAdd, Nat.reduceSub, Nat.reduceMul, Int.reduceLE, Int.reduceLT, Int.reduceToNat, Int.reduceEq, Int.reduceNe, Int.reduceAdd, Int.reduceMul, Int.reducePow, Int.reduceNeg, Nat.reduceBEq, Int.reduceBNe, Int.reduceBEq, reduceCtorEq, ne_eq, IntWalk.iteOmega]
     first
       | done
       | (refine congrArg (fun b => some (AV.c (AC.bool b))) ?_
          refine Bool.eq_iff_iff.2 ?_
          simp only [Bool.false_eq_true, decide_eq_true_eq, true_iff, false_iff, ← cache_iff]
          try simp only []
          first
            | done
            | omega
            | (simp_all; done)
            | (simp_all; omega)))
deriving instance DecidableEq for Made
theorem made_iff (a b : Made) : (a.c = b.c ∧ a.out = b.out ∧ a.s = b.s ∧ a.n = b.n ∧ a.e = b.e) ↔ a = b := by
  cases a; cases b; simp
theorem T15 (a b : Made) (hn : a.c.items.length ≤ 1000000) (ho : a.out.length ≤ 1000000) : RunsTo Try.prog 15 [.agg a.enc, .agg b.enc] [] (.c (.bool (decide (a = b)))) [] := by
  have h14 := T14 a.c b.c hn
  have h31 := T31 a.out b.out ho
  refine R15 (by simp) ?_
  simp -implicitDefEqProofs (disch := omega) only [i15_0, i15_1, i15_2, i15_3, i15, Made.enc, zS, State.step, State.pure, State.pure.capsOf, arrGo, State.ghosts, State.ghost, State.srcRows, State.arrRows, State.pure.fillC, State.bound, State.rd, takeC, args0, State.res, State.res1, State.resS, State.resL, normS, AC.pure, splice, ↓reduceIte, Nat.reduceEqDiff, Nat.reduceLT, Nat.reduceLeDiff, Nat.reduceAdd, Nat.reduceSub, Nat.reduceMul, Int.reduceLE, Int.reduceLT, Int.reduceToNat, Int.reduceEq, Int.reduceNe, Int.reduceAdd, Int.reduceMul, Int.reducePow, Int.reduceNeg, Nat.reduceBEq, Int.reduceBNe, Int.reduceBEq, reduceCtorEq, ne_eq, IntWalk.iteOmega]
  refine call_pure h14 rfl rfl ?_
  simp -implicitDefEqProofs (disch := omega) only [zS, State.step, State.pure, State.pure.capsOf, arrGo, State.ghosts, State.ghost, State.srcRows, State.arrRows, State.pure.fillC, State.bound, State.rd, takeC, args0, State.res, State.res1, State.resS, State.resL, normS, AC.pure, splice, ↓reduceIte, Nat.reduceEqDiff, Nat.reduceLT, Nat.reduceLeDiff, Nat.reduceAdd, Nat.reduceSub, Nat.reduceMul, Int.reduceLE, Int.reduceLT, Int.reduceToNat, Int.reduceEq, Int.reduceNe, Int.reduceAdd, Int.reduceMul, Int.reducePow, Int.reduceNeg, Nat.reduceBEq, Int.reduceBNe, Int.reduceBEq, reduceCtorEq, ne_eq, IntWalk.iteOmega]
  refine call_pure h31 rfl rfl ?_
  simp -implicitDefEqProofs (disch := omega) only [zS, State.step, State.pure, State.pure.capsOf, arrGo, State.ghosts, State.ghost, State.srcRows, State.arrRows, State.pure.fillC, State.bound, State.rd, takeC, args0, State.res, State.res1, State.resS, State.resL, normS, AC.pure, splice, ↓reduceIte, Nat.reduceEqDiff, Nat.reduceLT, Nat.reduceLeDiff, Nat.reduceAdd, Nat.reduceSub, Nat.reduceMul, Int.reduceLE, Int.reduceLT, Int.reduceToNat, Int.reduceEq, Int.reduceNe, Int.reduceAdd, Int.reduceMul, Int.reducePow, Int.reduceNeg, Nat.reduceBEq, Int.reduceBNe, Int.reduceBEq, reduceCtorEq, ne_eq, IntWalk.iteOmega]
  repeat' (first | ((with_reducible first | refine gIf_dT (fun h h' => ?_) (fun h h' => ?_) | refine gIf_dF (fun h h' => ?_) (fun h h' => ?_) | refine gCond_d (fun h h' => ?_) (fun h h' => ?_) | refine gIf_bT (fun h h' => ?_) (fun h h' => ?_) | refine gIf_bF (fun h h' => ?_) (fun h h' => ?_) | refine gCond_b (fun h h' => ?_) (fun h h' => ?_)) <;> (simp -implicitDefEqProofs (disch := omega) only [h', zS, State.step, State.pure, State.pure.capsOf, arrGo, State.ghosts, State.ghost, State.srcRows, State.arrRows, State.pure.fillC, State.bound, State.rd, takeC, args0, State.res, State.res1, State.resS, State.resL, normS, AC.pure, splice, ↓reduceIte, Nat.reduceEqDiff, Nat.reduceLT, Nat.reduceLeDiff, Nat.reduceAdd, Nat.reduceSub, Nat.reduceMul, Int.reduceLE, Int.reduceLT, Int.reduceToNat, Int.reduceEq, Int.reduceNe, Int.reduceAdd, Int.reduceMul, Int.reducePow, Int.reduceNeg, Nat.reduceBEq, Int.reduceBNe, Int.reduceBEq, reduceCtorEq, ne_eq, IntWalk.iteOmega] <;> clear h')))
  all_goals
    (refine fin_pure rfl ?_ not_x_r
     simp only [rs15, zS, State.step, State.pure, State.pure.capsOf, arrGo, State.ghosts, State.ghost, State.srcRows, State.arrRows, State.pure.fillC, State.bound, State.rd, takeC, args0, State.res, State.res1, State.resS, State.resL, normS, AC.pure, splice, ↓reduceIte, Nat.reduceEqDiff, Nat.reduceLT, Nat.reduceLeDiff, Nat.reduceAdd, Nat.reduceSub, Nat.reduceMul, Int.reduceLE, Int.reduceLT, Int.reduceToNat, Int.reduceEq, Int.reduceNe, Int.reduceAdd, Int.reduceMul, Int.reducePow, Int.reduceNeg, Nat.reduceBEq, Int.reduceBNe, Int.reduceBEq, reduceCtorEq, ne_eq, IntWalk.iteOmega]
     first
       | done
       | (refine congrArg (fun b => some (AV.c (AC.bool b))) ?_
          refine Bool.eq_iff_iff.2 ?_
          simp only [Bool.false_eq_true, decide_eq_true_eq, true_iff, false_iff, ← made_iff]
          try simp only []
          first
            | done
            | omega
            | (simp_all; done)
            | (simp_all; omega)))
/-- Are there at most n items of at most 60 bytes? -/
def Short (l : List Kept) (n : Int) : Prop := (l.length : Int) ≤ n ∧ ∀ k ∈ l, k.bytes.size ≤ 60
theorem L8 (all : List Kept) (hn : all.length ≤ 1000000) (K : AX → State → Prop)
    (hK : ∀ j, (∀ k ∈ all, k.bytes.size ≤ 60) → K (.x 0) ⟨[(0, .c (.list 0 7 (rowsK all))), (5, .c (.int .i64 j)), (13, .c (.bool false))], []⟩)
    (hR : ¬ (∀ k ∈ all, k.bytes.size ≤ 60) → K .r ⟨[(4, .c (.bool false))], []⟩) :
    ∀ (post pre : List Kept), pre ++ post = all → (∀ k ∈ pre, k.bytes.size ≤ 60) → (IR.loop [] i8_L0).go Try.prog ⟨[(0, .c (.list 0 7 (rowsK all))), (5, .c (.int .i64 pre.length))], []⟩ K := by
  intro post
  induction post with
  | nil =>
    intro pre hp hs
    obtain rfl : pre = all := by simpa using hp
    refine go_loop fun L hL => ?_
    simp -implicitDefEqProofs (disch := omega) only [i8_0, i8_1, i8_2, i8_3, i8_4, i8_5, i8_6, i8_7, i8_8, i8_K0, i8, i8_L0, rowsK_len, zS, State.step, State.pure, State.pure.capsOf, arrGo, State.ghosts, State.ghost, State.srcRows, State.arrRows, State.pure.fillC, State.bound, State.rd, takeC, args0, State.res, State.res1, State.resS, State.resL, normS, AC.pure, splice, ↓reduceIte, Nat.reduceEqDiff, Nat.reduceLT, Nat.reduceLeDiff, Nat.reduceAdd, Nat.reduceSub, Nat.reduceMul, Int.reduceLE, Int.reduceLT, Int.reduceToNat, Int.reduceEq, Int.reduceNe, Int.reduceAdd, Int.reduceMul, Int.reducePow, Int.reduceNeg, Nat.reduceBEq, Int.reduceBNe, Int.reduceBEq, reduceCtorEq, ne_eq, IntWalk.iteOmega]
    rw [hL]; exact hK _ hs
  | cons x post ih =>
    intro pre hp hs
    have hget := row_at hp
    have hlt : (pre.length : Int) < all.length := by rw [← hp]; simp; omega
    refine go_loop fun L hL => ?_
    have hN : x.bytes.size ≤ 60 → _ := fun e => ih (pre ++ [x]) (by rw [← hp]; simp) (fun k hk => by
      rcases List.mem_append.1 hk with h | h
      · exact hs k h
      · simp at h; rw [h]; exact e)
    simp only [List.length_append, List.length_cons, List.length_nil] at hN
    simp -implicitDefEqProofs (disch := omega) only [i8_0, i8_1, i8_2, i8_3, i8_4, i8_5, i8_6, i8_7, i8_8, i8_K0, i8, i8_L0, hlt, hget, Kept.enc, rowsK_len, zS, State.step, State.pure, State.pure.capsOf, arrGo, State.ghosts, State.ghost, State.srcRows, State.arrRows, State.pure.fillC, State.bound, State.rd, takeC, args0, State.res, State.res1, State.resS, State.resL, normS, AC.pure, splice, ↓reduceIte, Nat.reduceEqDiff, Nat.reduceLT, Nat.reduceLeDiff, Nat.reduceAdd, Nat.reduceSub, Nat.reduceMul, Int.reduceLE, Int.reduceLT, Int.reduceToNat, Int.reduceEq, Int.reduceNe, Int.reduceAdd, Int.reduceMul, Int.reducePow, Int.reduceNeg, Nat.reduceBEq, Int.reduceBNe, Int.reduceBEq, reduceCtorEq, ne_eq, IntWalk.iteOmega]
    refine gCond_d (fun h h' => ?_) (fun h h' => ?_)
    · simp -implicitDefEqProofs (disch := omega) only [i8_0, i8_1, i8_2, i8_3, i8_4, i8_5, i8_6, i8_7, i8_8, i8_K0, i8, zS, State.step, State.pure, State.pure.capsOf, arrGo, State.ghosts, State.ghost, State.srcRows, State.arrRows, State.pure.fillC, State.bound, State.rd, takeC, args0, State.res, State.res1, State.resS, State.resL, normS, AC.pure, splice, ↓reduceIte, Nat.reduceEqDiff, Nat.reduceLT, Nat.reduceLeDiff, Nat.reduceAdd, Nat.reduceSub, Nat.reduceMul, Int.reduceLE, Int.reduceLT, Int.reduceToNat, Int.reduceEq, Int.reduceNe, Int.reduceAdd, Int.reduceMul, Int.reducePow, Int.reduceNeg, Nat.reduceBEq, Int.reduceBNe, Int.reduceBEq, reduceCtorEq, ne_eq, IntWalk.iteOmega]
      rw [hL]
      exact hR fun hall => by have := hall x (by rw [← hp]; simp); omega
    · simp -implicitDefEqProofs (disch := omega) only [zS, State.step, State.pure, State.pure.capsOf, arrGo, State.ghosts, State.ghost, State.srcRows, State.arrRows, State.pure.fillC, State.bound, State.rd, takeC, args0, State.res, State.res1, State.resS, State.resL, normS, AC.pure, splice, ↓reduceIte, Nat.reduceEqDiff, Nat.reduceLT, Nat.reduceLeDiff, Nat.reduceAdd, Nat.reduceSub, Nat.reduceMul, Int.reduceLE, Int.reduceLT, Int.reduceToNat, Int.reduceEq, Int.reduceNe, Int.reduceAdd, Int.reduceMul, Int.reducePow, Int.reduceNeg, Nat.reduceBEq, Int.reduceBNe, Int.reduceBEq, reduceCtorEq, ne_eq, IntWalk.iteOmega]
      rw [hL]
      exact hN (by omega)
theorem T8 (l : List Kept) (n : Int) (hn : l.length ≤ 1000000) (b : Bool) (hb : b = true ↔ Short l n) : RunsTo Try.prog 8 [.c (.list 0 7 (rowsK l)), .c (.int .i64 n)] [] (.c (.bool b)) [] := by
  refine R8 (by simp) ?_
  simp -implicitDefEqProofs (disch := omega) only [i8_0, i8_1, i8_2, i8_3, i8_4, i8_5, i8_6, i8_7, i8_8, i8_K0, i8, rowsK_len, zS, State.step, State.pure, State.pure.capsOf, arrGo, State.ghosts, State.ghost, State.srcRows, State.arrRows, State.pure.fillC, State.bound, State.rd, takeC, args0, State.res, State.res1, State.resS, State.resL, normS, AC.pure, splice, ↓reduceIte, Nat.reduceEqDiff, Nat.reduceLT, Nat.reduceLeDiff, Nat.reduceAdd, Nat.reduceSub, Nat.reduceMul, Int.reduceLE, Int.reduceLT, Int.reduceToNat, Int.reduceEq, Int.reduceNe, Int.reduceAdd, Int.reduceMul, Int.reducePow, Int.reduceNeg, Nat.reduceBEq, Int.reduceBNe, Int.reduceBEq, reduceCtorEq, ne_eq, IntWalk.iteOmega]
  refine gCond_d (fun h h' => ?_) (fun h h' => ?_)
  · simp -implicitDefEqProofs (disch := omega) only [zS, State.step, State.pure, State.pure.capsOf, arrGo, State.ghosts, State.ghost, State.srcRows, State.arrRows, State.pure.fillC, State.bound, State.rd, takeC, args0, State.res, State.res1, State.resS, State.resL, normS, AC.pure, splice, ↓reduceIte, Nat.reduceEqDiff, Nat.reduceLT, Nat.reduceLeDiff, Nat.reduceAdd, Nat.reduceSub, Nat.reduceMul, Int.reduceLE, Int.reduceLT, Int.reduceToNat, Int.reduceEq, Int.reduceNe, Int.reduceAdd, Int.reduceMul, Int.reducePow, Int.reduceNeg, Nat.reduceBEq, Int.reduceBNe, Int.reduceBEq, reduceCtorEq, ne_eq, IntWalk.iteOmega]
    obtain rfl : b = false := by
      cases b with
      | false => rfl
      | true => have := (hb.1 rfl).1; omega
    (refine fin_pure rfl ?_ not_x_r; simp only [rs8, zS, State.step, State.pure, State.pure.capsOf, arrGo, State.ghosts, State.ghost, State.srcRows, State.arrRows, State.pure.fillC, State.bound, State.rd, takeC, args0, State.res, State.res1, State.resS, State.resL, normS, AC.pure, splice, ↓reduceIte, Nat.reduceEqDiff, Nat.reduceLT, Nat.reduceLeDiff, Nat.reduceAdd, Nat.reduceSub, Nat.reduceMul, Int.reduceLE, Int.reduceLT, Int.reduceToNat, Int.reduceEq, Int.reduceNe, Int.reduceAdd, Int.reduceMul, Int.reducePow, Int.reduceNeg, Nat.reduceBEq, Int.reduceBNe, Int.reduceBEq, reduceCtorEq, ne_eq, IntWalk.iteOmega])
  · simp -implicitDefEqProofs (disch := omega) only [zS, State.step, State.pure, State.pure.capsOf, arrGo, State.ghosts, State.ghost, State.srcRows, State.arrRows, State.pure.fillC, State.bound, State.rd, takeC, args0, State.res, State.res1, State.resS, State.resL, normS, AC.pure, splice, ↓reduceIte, Nat.reduceEqDiff, Nat.reduceLT, Nat.reduceLeDiff, Nat.reduceAdd, Nat.reduceSub, Nat.reduceMul, Int.reduceLE, Int.reduceLT, Int.reduceToNat, Int.reduceEq, Int.reduceNe, Int.reduceAdd, Int.reduceMul, Int.reducePow, Int.reduceNeg, Nat.reduceBEq, Int.reduceBNe, Int.reduceBEq, reduceCtorEq, ne_eq, IntWalk.iteOmega]
    refine L8 l hn _ (fun j e => ?_) (fun e => ?_) l [] rfl (by simp)
    · obtain rfl : b = true := hb.2 ⟨by omega, e⟩
      simp -implicitDefEqProofs (disch := omega) only [zS, State.step, State.pure, State.pure.capsOf, arrGo, State.ghosts, State.ghost, State.srcRows, State.arrRows, State.pure.fillC, State.bound, State.rd, takeC, args0, State.res, State.res1, State.resS, State.resL, normS, AC.pure, splice, ↓reduceIte, Nat.reduceEqDiff, Nat.reduceLT, Nat.reduceLeDiff, Nat.reduceAdd, Nat.reduceSub, Nat.reduceMul, Int.reduceLE, Int.reduceLT, Int.reduceToNat, Int.reduceEq, Int.reduceNe, Int.reduceAdd, Int.reduceMul, Int.reducePow, Int.reduceNeg, Nat.reduceBEq, Int.reduceBNe, Int.reduceBEq, reduceCtorEq, ne_eq, IntWalk.iteOmega]
      (refine fin_pure rfl ?_ not_x_r; simp only [rs8, zS, State.step, State.pure, State.pure.capsOf, arrGo, State.ghosts, State.ghost, State.srcRows, State.arrRows, State.pure.fillC, State.bound, State.rd, takeC, args0, State.res, State.res1, State.resS, State.resL, normS, AC.pure, splice, ↓reduceIte, Nat.reduceEqDiff, Nat.reduceLT, Nat.reduceLeDiff, Nat.reduceAdd, Nat.reduceSub, Nat.reduceMul, Int.reduceLE, Int.reduceLT, Int.reduceToNat, Int.reduceEq, Int.reduceNe, Int.reduceAdd, Int.reduceMul, Int.reducePow, Int.reduceNeg, Nat.reduceBEq, Int.reduceBNe, Int.reduceBEq, reduceCtorEq, ne_eq, IntWalk.iteOmega])
    · obtain rfl : b = false := by
        cases b with
        | false => rfl
        | true => exact absurd (hb.1 rfl).2 e
      simp -implicitDefEqProofs (disch := omega) only [zS, State.step, State.pure, State.pure.capsOf, arrGo, State.ghosts, State.ghost, State.srcRows, State.arrRows, State.pure.fillC, State.bound, State.rd, takeC, args0, State.res, State.res1, State.resS, State.resL, normS, AC.pure, splice, ↓reduceIte, Nat.reduceEqDiff, Nat.reduceLT, Nat.reduceLeDiff, Nat.reduceAdd, Nat.reduceSub, Nat.reduceMul, Int.reduceLE, Int.reduceLT, Int.reduceToNat, Int.reduceEq, Int.reduceNe, Int.reduceAdd, Int.reduceMul, Int.reducePow, Int.reduceNeg, Nat.reduceBEq, Int.reduceBNe, Int.reduceBEq, reduceCtorEq, ne_eq, IntWalk.iteOmega]
      (refine fin_pure rfl ?_ not_x_r; simp only [rs8, zS, State.step, State.pure, State.pure.capsOf, arrGo, State.ghosts, State.ghost, State.srcRows, State.arrRows, State.pure.fillC, State.bound, State.rd, takeC, args0, State.res, State.res1, State.resS, State.resL, normS, AC.pure, splice, ↓reduceIte, Nat.reduceEqDiff, Nat.reduceLT, Nat.reduceLeDiff, Nat.reduceAdd, Nat.reduceSub, Nat.reduceMul, Int.reduceLE, Int.reduceLT, Int.reduceToNat, Int.reduceEq, Int.reduceNe, Int.reduceAdd, Int.reduceMul, Int.reducePow, Int.reduceNeg, Nat.reduceBEq, Int.reduceBNe, Int.reduceBEq, reduceCtorEq, ne_eq, IntWalk.iteOmega])
end Go.Proofs.Ytimapebigcmbmaa

set_option linter.unusedVariables false
set_option linter.unusedSimpArgs false
namespace Go.Proofs.Ytimapebigcmbmaa
open Go Go.AI Go.Proofs

def Bef : Option Kept → Kept → Prop
  | none, _ => True
  | some q, k => Before q k
instance (p : Option Kept) (k : Kept) : Decidable (Bef p k) := by cases p <;> (unfold Bef; infer_instance)
/-- Is an item right where it stands? -/
def Fine (now : Int) (p : Option Kept) (k : Kept) : Prop := Right k now ∧ k.since ≤ k.used ∧ k.used ≤ now ∧ Bef p k
instance (now : Int) (p : Option Kept) (k : Kept) : Decidable (Fine now p k) := by unfold Fine; infer_instance
def chkL (now : Int) : Option Kept → List Kept → Int
  | _, [] => 0
  | p, k :: l => if ¬ Fine now p k then 1 else if k.last < now then 18 else chkL now (some k) l
def check (c : Cache) : Int :=
  if c.room < 0 ∨ 1048576 < c.room ∨ c.now < 0 ∨ 1000000 < c.now then 3
  else if chkL c.now none c.items ≠ 0 then chkL c.now none c.items
  else if c.room < tot c.items then 13 else 0
theorem chkL_bad {now : Int} {p : Option Kept} {k : Kept} {l : List Kept} (h : ¬ Fine now p k) : chkL now p (k :: l) = 1 := by simp only [chkL]; rw [if_pos h]
theorem chkL_dead {now : Int} {p : Option Kept} {k : Kept} {l : List Kept} (h : Fine now p k) (h2 : k.last < now) : chkL now p (k :: l) = 18 := by simp only [chkL]; rw [if_neg (by simpa using h), if_pos h2]
theorem chkL_go {now : Int} {p : Option Kept} {k : Kept} {l : List Kept} (h : Fine now p k) (h2 : ¬ k.last < now) : chkL now p (k :: l) = chkL now (some k) l := by simp only [chkL]; rw [if_neg (by simpa using h), if_neg h2]

theorem L13 (c : Cache) (hc : c.Ok) (K : AX → State → Prop)
    (hK : ∀ X j, chkL c.now none c.items = 0 → K (.x 0) ⟨[(1, .c (.ptr (some (0, 0)))), (3, .c (.int .i64 j)), (29, .c (.bool false))], .cells c.enc :: X⟩)
    (hR : ∀ e H, chkL c.now none c.items = e → e ≠ 0 → K .r ⟨[(2, .c (.int .i64 e))], H⟩) :
    ∀ (post pre : List Kept), pre ++ post = c.items → chkL c.now none c.items = chkL c.now pre.getLast? post → ∀ X, (IR.loop [] i13_L0).go Try.prog ⟨[(1, .c (.ptr (some (0, 0)))), (3, .c (.int .i64 pre.length))], .cells c.enc :: X⟩ K := by
  have hn := hc.few
  intro post
  induction post with
  | nil =>
    intro pre hp hs X
    have hl : c.items.length = pre.length := by rw [← hp]; simp
    refine go_loop fun L hL => ?_
    simp -implicitDefEqProofs (disch := omega) only [i13_0, i13_1, i13_2, i13_3, i13_4, i13_5, i13_6, i13_7, i13_8, i13_9, i13_10, i13_11, i13_12, i13_13, i13_14, i13_15, i13_K0, i13, i13_L0, rowsK_len, hl, Cache.enc, zS, State.step, State.pure, State.pure.capsOf, arrGo, State.ghosts, State.ghost, State.srcRows, State.arrRows, State.pure.fillC, State.bound, State.rd, takeC, args0, State.res, State.res1, State.resS, State.resL, normS, AC.pure, splice, ↓reduceIte, Nat.reduceEqDiff, Nat.reduceLT, Nat.reduceLeDiff, Nat.reduceAdd, Nat.reduceSub, Nat.reduceMul, Int.reduceLE, Int.reduceLT, Int.reduceToNat, Int.reduceEq, Int.reduceNe, Int.reduceAdd, Int.reduceMul, Int.reducePow, Int.reduceNeg, Nat.reduceBEq, Int.reduceBNe, Int.reduceBEq, reduceCtorEq, ne_eq, IntWalk.iteOmega]
    rw [hL]; exact hK _ _ (by rw [hs]; rfl)
  | cons x post ih =>
    intro pre hp hs X
    have hget := row_at hp
    have hlt : (pre.length : Int) < c.items.length := by rw [← hp]; simp; omega
    have hx : x.Ok := hc.items x (by rw [← hp]; simp)
    have h28 := T28 x c.now hx hc.now
    have hN : Fine c.now pre.getLast? x → ¬ x.last < c.now → _ := fun e e2 => ih (pre ++ [x]) (by rw [← hp]; simp) (by rw [hs, chkL_go e e2]; simp)
    simp only [List.length_append, List.length_cons, List.length_nil] at hN
    have hB : ∀ H, ¬ Fine c.now pre.getLast? x → K .r ⟨[(2, .c (.int .i64 1))], H⟩ := fun H e => hR 1 H (by rw [hs, chkL_bad e]) (by decide)
    have hD : ∀ H, Fine c.now pre.getLast? x → x.last < c.now → K .r ⟨[(2, .c (.int .i64 18))], H⟩ := fun H e e2 => hR 18 H (by rw [hs, chkL_dead e e2]) (by decide)
    refine go_loop fun L hL => ?_
    rcases List.eq_nil_or_concat pre with he | ⟨pre', q, he⟩ <;> (try rw [List.concat_eq_append] at he)
    · subst he
      have hlt0 : (0 : Int) < c.items.length := by simpa using hlt
      have hget0 : (rowsK c.items)[0]? = some x.enc := by simpa using hget
      have hF : Fine c.now none x ↔ (right x c.now = true ∧ x.since ≤ x.used ∧ x.used ≤ c.now) := by simp [Fine, right, Bef]
      simp only [List.getLast?_nil] at hN hB hD
      simp -implicitDefEqProofs (disch := omega) only [i13_0, i13_1, i13_2, i13_3, i13_4, i13_5, i13_6, i13_7, i13_8, i13_9, i13_10, i13_11, i13_12, i13_13, i13_14, i13_15, i13_K0, i13, i13_L0, hlt0, hget0, Kept.enc, rowsK_len, Cache.enc, List.length_nil, Int.natCast_zero, zS, State.step, State.pure, State.pure.capsOf, arrGo, State.ghosts, State.ghost, State.srcRows, State.arrRows, State.pure.fillC, State.bound, State.rd, takeC, args0, State.res, State.res1, State.resS, State.resL, normS, AC.pure, splice, ↓reduceIte, Nat.reduceEqDiff, Nat.reduceLT, Nat.reduceLeDiff, Nat.reduceAdd, Nat.reduceSub, Nat.reduceMul, Int.reduceLE, Int.reduceLT, Int.reduceToNat, Int.reduceEq, Int.reduceNe, Int.reduceAdd, Int.reduceMul, Int.reducePow, Int.reduceNeg, Nat.reduceBEq, Int.reduceBNe, Int.reduceBEq, reduceCtorEq, ne_eq, IntWalk.iteOmega]
      refine call_pure h28 rfl rfl ?_
      simp -implicitDefEqProofs (disch := omega) only [zS, State.step, State.pure, State.pure.capsOf, arrGo, State.ghosts, State.ghost, State.srcRows, State.arrRows, State.pure.fillC, State.bound, State.rd, takeC, args0, State.res, State.res1, State.resS, State.resL, normS, AC.pure, splice, ↓reduceIte, Nat.reduceEqDiff, Nat.reduceLT, Nat.reduceLeDiff, Nat.reduceAdd, Nat.reduceSub, Nat.reduceMul, Int.reduceLE, Int.reduceLT, Int.reduceToNat, Int.reduceEq, Int.reduceNe, Int.reduceAdd, Int.reduceMul, Int.reducePow, Int.reduceNeg, Nat.reduceBEq, Int.reduceBNe, Int.reduceBEq, reduceCtorEq, ne_eq, IntWalk.iteOmega]
      repeat' (first | ((with_reducible first | refine gIf_dT (fun h h' => ?_) (fun h h' => ?_) | refine gIf_dF (fun h h' => ?_) (fun h h' => ?_) | refine gCond_d (fun h h' => ?_) (fun h h' => ?_) | refine gIf_bT (fun h h' => ?_) (fun h h' => ?_) | refine gIf_bF (fun h h' => ?_) (fun h h' => ?_) | refine gCond_b (fun h h' => ?_) (fun h h' => ?_)) <;> (simp -implicitDefEqProofs (disch := omega) only [h', zS, State.step, State.pure, State.pure.capsOf, arrGo, State.ghosts, State.ghost, State.srcRows, State.arrRows, State.pure.fillC, State.bound, State.rd, takeC, args0, State.res, State.res1, State.resS, State.resL, normS, AC.pure, splice, ↓reduceIte, Nat.reduceEqDiff, Nat.reduceLT, Nat.reduceLeDiff, Nat.reduceAdd, Nat.reduceSub, Nat.reduceMul, Int.reduceLE, Int.reduceLT, Int.reduceToNat, Int.reduceEq, Int.reduceNe, Int.reduceAdd, Int.reduceMul, Int.reducePow, Int.reduceNeg, Nat.reduceBEq, Int.reduceBNe, Int.reduceBEq, reduceCtorEq, ne_eq, IntWalk.iteOmega] <;> clear h')))
      all_goals first
        | (rw [hL]; refine hB _ ?_; rw [hF]; simp_all; done)
        | (rw [hL]; refine hB _ ?_; rw [hF]; simp_all; omega)
        | (rw [hL]; refine hD _ ?_ ?_ <;> first | assumption | (rw [hF]; refine ⟨by assumption, ?_, ?_⟩ <;> omega))
        | (rw [hL]; refine hN ?_ ?_ _ <;> first | assumption | (rw [hF]; refine ⟨by assumption, ?_, ?_⟩ <;> omega))
    · subst he
      have hgq : (rowsK c.items)[pre'.length]? = some q.enc := row_at (post := x :: post) (by rw [← hp]; simp)
      have h29 := T29 q x
      have hF : Fine c.now (some q) x ↔ (right x c.now = true ∧ x.since ≤ x.used ∧ x.used ≤ c.now ∧ before q x = true) := by simp [Fine, right, Bef, before]
      have hll : (pre' ++ [q]).length = pre'.length + 1 := by simp
      have hla : (pre' ++ [q]).getLast? = some q := by simp
      rw [hla] at hN hB hD
      have f0 : (((pre'.length + 1 : Nat) : Int) = 0) = False := eq_false (by omega)
      have f1 : ((pre'.length + 1 : Nat) : Int) - 1 = (pre'.length : Int) := by omega
      simp only [List.length_append, List.length_cons, List.length_nil, Nat.zero_add] at hN
      rw [hll] at hlt hget ⊢
      simp -implicitDefEqProofs (disch := omega) only [i13_0, i13_1, i13_2, i13_3, i13_4, i13_5, i13_6, i13_7, i13_8, i13_9, i13_10, i13_11, i13_12, i13_13, i13_14, i13_15, i13_K0, i13, i13_L0, hlt, hget, hgq, Kept.enc, rowsK_len, Cache.enc, f0, f1, zS, State.step, State.pure, State.pure.capsOf, arrGo, State.ghosts, State.ghost, State.srcRows, State.arrRows, State.pure.fillC, State.bound, State.rd, takeC, args0, State.res, State.res1, State.resS, State.resL, normS, AC.pure, splice, ↓reduceIte, Nat.reduceEqDiff, Nat.reduceLT, Nat.reduceLeDiff, Nat.reduceAdd, Nat.reduceSub, Nat.reduceMul, Int.reduceLE, Int.reduceLT, Int.reduceToNat, Int.reduceEq, Int.reduceNe, Int.reduceAdd, Int.reduceMul, Int.reducePow, Int.reduceNeg, Nat.reduceBEq, Int.reduceBNe, Int.reduceBEq, reduceCtorEq, ne_eq, IntWalk.iteOmega]
      refine call_pure h28 rfl rfl ?_
      simp -implicitDefEqProofs (disch := omega) only [hlt, hget, hgq, Kept.enc, rowsK_len, Cache.enc, f0, f1, zS, State.step, State.pure, State.pure.capsOf, arrGo, State.ghosts, State.ghost, State.srcRows, State.arrRows, State.pure.fillC, State.bound, State.rd, takeC, args0, State.res, State.res1, State.resS, State.resL, normS, AC.pure, splice, ↓reduceIte, Nat.reduceEqDiff, Nat.reduceLT, Nat.reduceLeDiff, Nat.reduceAdd, Nat.reduceSub, Nat.reduceMul, Int.reduceLE, Int.reduceLT, Int.reduceToNat, Int.reduceEq, Int.reduceNe, Int.reduceAdd, Int.reduceMul, Int.reducePow, Int.reduceNeg, Nat.reduceBEq, Int.reduceBNe, Int.reduceBEq, reduceCtorEq, ne_eq, IntWalk.iteOmega]
      refine call_pure h29 rfl rfl ?_
      simp -implicitDefEqProofs (disch := omega) only [zS, State.step, State.pure, State.pure.capsOf, arrGo, State.ghosts, State.ghost, State.srcRows, State.arrRows, State.pure.fillC, State.bound, State.rd, takeC, args0, State.res, State.res1, State.resS, State.resL, normS, AC.pure, splice, ↓reduceIte, Nat.reduceEqDiff, Nat.reduceLT, Nat.reduceLeDiff, Nat.reduceAdd, Nat.reduceSub, Nat.reduceMul, Int.reduceLE, Int.reduceLT, Int.reduceToNat, Int.reduceEq, Int.reduceNe, Int.reduceAdd, Int.reduceMul, Int.reducePow, Int.reduceNeg, Nat.reduceBEq, Int.reduceBNe, Int.reduceBEq, reduceCtorEq, ne_eq, IntWalk.iteOmega]
      repeat' (first | ((with_reducible first | refine gIf_dT (fun h h' => ?_) (fun h h' => ?_) | refine gIf_dF (fun h h' => ?_) (fun h h' => ?_) | refine gCond_d (fun h h' => ?_) (fun h h' => ?_) | refine gIf_bT (fun h h' => ?_) (fun h h' => ?_) | refine gIf_bF (fun h h' => ?_) (fun h h' => ?_) | refine gCond_b (fun h h' => ?_) (fun h h' => ?_)) <;> (simp -implicitDefEqProofs (disch := omega) only [h', zS, State.step, State.pure, State.pure.capsOf, arrGo, State.ghosts, State.ghost, State.srcRows, State.arrRows, State.pure.fillC, State.bound, State.rd, takeC, args0, State.res, State.res1, State.resS, State.resL, normS, AC.pure, splice, ↓reduceIte, Nat.reduceEqDiff, Nat.reduceLT, Nat.reduceLeDiff, Nat.reduceAdd, Nat.reduceSub, Nat.reduceMul, Int.reduceLE, Int.reduceLT, Int.reduceToNat, Int.reduceEq, Int.reduceNe, Int.reduceAdd, Int.reduceMul, Int.reducePow, Int.reduceNeg, Nat.reduceBEq, Int.reduceBNe, Int.reduceBEq, reduceCtorEq, ne_eq, IntWalk.iteOmega] <;> clear h')))
      all_goals first
        | (rw [hL]; refine hB _ ?_; rw [hF]; simp_all; done)
        | (rw [hL]; refine hB _ ?_; rw [hF]; simp_all; omega)
        | (rw [hL]; refine hD _ ?_ ?_ <;> first | assumption | (rw [hF]; refine ⟨by assumption, ?_, ?_, by assumption⟩ <;> omega))
        | (rw [hL]; refine hN ?_ ?_ _ <;> first | assumption | (rw [hF]; refine ⟨by assumption, ?_, ?_, by assumption⟩ <;> omega))
theorem T13 (c : Cache) (hc : c.Ok) : RunsTo Try.prog 13 [.agg c.enc] [] (.c (.int .i64 (check c))) [] := by
  have h30 := T30 c.items hc.few hc.tot
  refine R13 (by simp) ?_
  simp -implicitDefEqProofs (disch := omega) only [i13_0, i13_1, i13_2, i13_3, i13_4, i13_5, i13_6, i13_7, i13_8, i13_9, i13_10, i13_11, i13_12, i13_13, i13_14, i13_15, i13_K0, i13, Cache.enc, zS, State.step, State.pure, State.pure.capsOf, arrGo, State.ghosts, State.ghost, State.srcRows, State.arrRows, State.pure.fillC, State.bound, State.rd, takeC, args0, State.res, State.res1, State.resS, State.resL, normS, AC.pure, splice, ↓reduceIte, Nat.reduceEqDiff, Nat.reduceLT, Nat.reduceLeDiff, Nat.reduceAdd, Nat.reduceSub, Nat.reduceMul, Int.reduceLE, Int.reduceLT, Int.reduceToNat, Int.reduceEq, Int.reduceNe, Int.reduceAdd, Int.reduceMul, Int.reducePow, Int.reduceNeg, Nat.reduceBEq, Int.reduceBNe, Int.reduceBEq, reduceCtorEq, ne_eq, IntWalk.iteOmega]
  repeat' (first | ((with_reducible first | refine gIf_dT (fun h h' => ?_) (fun h h' => ?_) | refine gIf_dF (fun h h' => ?_) (fun h h' => ?_) | refine gCond_d (fun h h' => ?_) (fun h h' => ?_) | refine gIf_bT (fun h h' => ?_) (fun h h' => ?_) | refine gIf_bF (fun h h' => ?_) (fun h h' => ?_) | refine gCond_b (fun h h' => ?_) (fun h h' => ?_)) <;> (simp -implicitDefEqProofs (disch := omega) only [h', zS, State.step, State.pure, State.pure.capsOf, arrGo, State.ghosts, State.ghost, State.srcRows, State.arrRows, State.pure.fillC, State.bound, State.rd, takeC, args0, State.res, State.res1, State.resS, State.resL, normS, AC.pure, splice, ↓reduceIte, Nat.reduceEqDiff, Nat.reduceLT, Nat.reduceLeDiff, Nat.reduceAdd, Nat.reduceSub, Nat.reduceMul, Int.reduceLE, Int.reduceLT, Int.reduceToNat, Int.reduceEq, Int.reduceNe, Int.reduceAdd, Int.reduceMul, Int.reducePow, Int.reduceNeg, Nat.reduceBEq, Int.reduceBNe, Int.reduceBEq, reduceCtorEq, ne_eq, IntWalk.iteOmega] <;> clear h')))
  all_goals first
    | ((refine fin_pure rfl ?_ not_x_r; simp only [rs13, zS, State.step, State.pure, State.pure.capsOf, arrGo, State.ghosts, State.ghost, State.srcRows, State.arrRows, State.pure.fillC, State.bound, State.rd, takeC, args0, State.res, State.res1, State.resS, State.resL, normS, AC.pure, splice, ↓reduceIte, Nat.reduceEqDiff, Nat.reduceLT, Nat.reduceLeDiff, Nat.reduceAdd, Nat.reduceSub, Nat.reduceMul, Int.reduceLE, Int.reduceLT, Int.reduceToNat, Int.reduceEq, Int.reduceNe, Int.reduceAdd, Int.reduceMul, Int.reducePow, Int.reduceNeg, Nat.reduceBEq, Int.reduceBNe, Int.reduceBEq, reduceCtorEq, ne_eq, IntWalk.iteOmega]); rw [check, if_pos (by omega)]; done)
    | skip
  refine L13 c hc _ (fun X j e => ?_) (fun e H h1 h2 => ?_) c.items [] rfl rfl _
  · simp -implicitDefEqProofs (disch := omega) only [i13_0, i13_1, i13_2, i13_3, i13_4, i13_5, i13_6, i13_7, i13_8, i13_9, i13_10, i13_11, i13_12, i13_13, i13_14, i13_15, i13_K0, i13, Cache.enc, zS, State.step, State.pure, State.pure.capsOf, arrGo, State.ghosts, State.ghost, State.srcRows, State.arrRows, State.pure.fillC, State.bound, State.rd, takeC, args0, State.res, State.res1, State.resS, State.resL, normS, AC.pure, splice, ↓reduceIte, Nat.reduceEqDiff, Nat.reduceLT, Nat.reduceLeDiff, Nat.reduceAdd, Nat.reduceSub, Nat.reduceMul, Int.reduceLE, Int.reduceLT, Int.reduceToNat, Int.reduceEq, Int.reduceNe, Int.reduceAdd, Int.reduceMul, Int.reducePow, Int.reduceNeg, Nat.reduceBEq, Int.reduceBNe, Int.reduceBEq, reduceCtorEq, ne_eq, IntWalk.iteOmega]
    refine call_pure h30 rfl rfl ?_
    simp -implicitDefEqProofs (disch := omega) only [zS, State.step, State.pure, State.pure.capsOf, arrGo, State.ghosts, State.ghost, State.srcRows, State.arrRows, State.pure.fillC, State.bound, State.rd, takeC, args0, State.res, State.res1, State.resS, State.resL, normS, AC.pure, splice, ↓reduceIte, Nat.reduceEqDiff, Nat.reduceLT, Nat.reduceLeDiff, Nat.reduceAdd, Nat.reduceSub, Nat.reduceMul, Int.reduceLE, Int.reduceLT, Int.reduceToNat, Int.reduceEq, Int.reduceNe, Int.reduceAdd, Int.reduceMul, Int.reducePow, Int.reduceNeg, Nat.reduceBEq, Int.reduceBNe, Int.reduceBEq, reduceCtorEq, ne_eq, IntWalk.iteOmega]
    repeat' (first | ((with_reducible first | refine gIf_dT (fun h h' => ?_) (fun h h' => ?_) | refine gIf_dF (fun h h' => ?_) (fun h h' => ?_) | refine gCond_d (fun h h' => ?_) (fun h h' => ?_) | refine gIf_bT (fun h h' => ?_) (fun h h' => ?_) | refine gIf_bF (fun h h' => ?_) (fun h h' => ?_) | refine gCond_b (fun h h' => ?_) (fun h h' => ?_)) <;> (simp -implicitDefEqProofs (disch := omega) only [h', zS, State.step, State.pure, State.pure.capsOf, arrGo, State.ghosts, State.ghost, State.srcRows, State.arrRows, State.pure.fillC, State.bound, State.rd, takeC, args0, State.res, State.res1, State.resS, State.resL, normS, AC.pure, splice, ↓reduceIte, Nat.reduceEqDiff, Nat.reduceLT, Nat.reduceLeDiff, Nat.reduceAdd, Nat.reduceSub, Nat.reduceMul, Int.reduceLE, Int.reduceLT, Int.reduceToNat, Int.reduceEq, Int.reduceNe, Int.reduceAdd, Int.reduceMul, Int.reducePow, Int.reduceNeg, Nat.reduceBEq, Int.reduceBNe, Int.reduceBEq, reduceCtorEq, ne_eq, IntWalk.iteOmega] <;> clear h')))
    · (refine fin_pure rfl ?_ not_x_r; simp only [rs13, zS, State.step, State.pure, State.pure.capsOf, arrGo, State.ghosts, State.ghost, State.srcRows, State.arrRows, State.pure.fillC, State.bound, State.rd, takeC, args0, State.res, State.res1, State.resS, State.resL, normS, AC.pure, splice, ↓reduceIte, Nat.reduceEqDiff, Nat.reduceLT, Nat.reduceLeDiff, Nat.reduceAdd, Nat.reduceSub, Nat.reduceMul, Int.reduceLE, Int.reduceLT, Int.reduceToNat, Int.reduceEq, Int.reduceNe, Int.reduceAdd, Int.reduceMul, Int.reducePow, Int.reduceNeg, Nat.reduceBEq, Int.reduceBNe, Int.reduceBEq, reduceCtorEq, ne_eq, IntWalk.iteOmega])
      rw [check, if_neg (by omega), if_neg (by simpa using e), if_pos (by assumption)]
    · (refine fin_pure rfl ?_ not_x_r; simp only [rs13, zS, State.step, State.pure, State.pure.capsOf, arrGo, State.ghosts, State.ghost, State.srcRows, State.arrRows, State.pure.fillC, State.bound, State.rd, takeC, args0, State.res, State.res1, State.resS, State.resL, normS, AC.pure, splice, ↓reduceIte, Nat.reduceEqDiff, Nat.reduceLT, Nat.reduceLeDiff, Nat.reduceAdd, Nat.reduceSub, Nat.reduceMul, Int.reduceLE, Int.reduceLT, Int.reduceToNat, Int.reduceEq, Int.reduceNe, Int.reduceAdd, Int.reduceMul, Int.reducePow, Int.reduceNeg, Nat.reduceBEq, Int.reduceBNe, Int.reduceBEq, reduceCtorEq, ne_eq, IntWalk.iteOmega])
      rw [check, if_neg (by omega), if_neg (by simpa using e), if_neg (by assumption)]
  · simp -implicitDefEqProofs (disch := omega) only [zS, State.step, State.pure, State.pure.capsOf, arrGo, State.ghosts, State.ghost, State.srcRows, State.arrRows, State.pure.fillC, State.bound, State.rd, takeC, args0, State.res, State.res1, State.resS, State.resL, normS, AC.pure, splice, ↓reduceIte, Nat.reduceEqDiff, Nat.reduceLT, Nat.reduceLeDiff, Nat.reduceAdd, Nat.reduceSub, Nat.reduceMul, Int.reduceLE, Int.reduceLT, Int.reduceToNat, Int.reduceEq, Int.reduceNe, Int.reduceAdd, Int.reduceMul, Int.reducePow, Int.reduceNeg, Nat.reduceBEq, Int.reduceBNe, Int.reduceBEq, reduceCtorEq, ne_eq, IntWalk.iteOmega]
    (refine fin_pure rfl ?_ not_x_r; simp only [rs13, zS, State.step, State.pure, State.pure.capsOf, arrGo, State.ghosts, State.ghost, State.srcRows, State.arrRows, State.pure.fillC, State.bound, State.rd, takeC, args0, State.res, State.res1, State.resS, State.resL, normS, AC.pure, splice, ↓reduceIte, Nat.reduceEqDiff, Nat.reduceLT, Nat.reduceLeDiff, Nat.reduceAdd, Nat.reduceSub, Nat.reduceMul, Int.reduceLE, Int.reduceLT, Int.reduceToNat, Int.reduceEq, Int.reduceNe, Int.reduceAdd, Int.reduceMul, Int.reducePow, Int.reduceNeg, Nat.reduceBEq, Int.reduceBNe, Int.reduceBEq, reduceCtorEq, ne_eq, IntWalk.iteOmega])
    rw [check, if_neg (by omega), if_pos (by rw [h1]; exact h2), h1]
end Go.Proofs.Ytimapebigcmbmaa

set_option linter.unusedVariables false
set_option linter.unusedSimpArgs false
namespace Go.Proofs.Ytimapebigcmbmaa
open Go Go.AI Go.Proofs

def cmpK (a b : Kept) : Int := if a.object = b.object then a.chunk - b.chunk else a.object - b.object
theorem cmpK_ge (a b : Kept) : 0 ≤ cmpK a b ↔ ¬ Before a b := by
  unfold cmpK Before; split <;> omega
theorem cmpK_lt (a b : Kept) : cmpK a b < 0 ↔ Before a b := by
  unfold cmpK Before; split <;> omega
theorem cmpK_eq (a b : Kept) : cmpK a b = 0 ↔ a.object = b.object ∧ a.chunk = b.chunk := by
  unfold cmpK; split <;> omega
/-- The chunk of an item is named by small numbers. -/
def Small (k : Kept) : Prop := 0 ≤ k.object ∧ k.object ≤ 1099511627776 ∧ 0 ≤ k.chunk ∧ k.chunk ≤ 1099511627776
theorem Right.small {k : Kept} {now : Int} (h : Right k now) : Small k := ⟨h.1, h.2.1, h.2.2.1, h.2.2.2.1⟩
/-- Numbers of which one may be taken from any other. -/
def Mid (k : Kept) : Prop := -4000000000000000000 ≤ k.object ∧ k.object ≤ 4000000000000000000 ∧ -4000000000000000000 ≤ k.chunk ∧ k.chunk ≤ 4000000000000000000
theorem Small.mid {k : Kept} (h : Small k) : Mid k := by unfold Small at h; unfold Mid; omega
theorem T26m (a b : Kept) (ha : Mid a) (hb : Mid b) : RunsTo Try.prog 26 [.agg a.enc, .agg b.enc] [] (.c (.int .i64 (cmpK a b))) [] := by
  unfold Mid at ha hb
  have h1 : I64 (a.object - b.object) := by unfold I64; omega
  have h2 : I64 (a.chunk - b.chunk) := by unfold I64; omega
  obtain ⟨g1, g2⟩ := h1
  obtain ⟨g3, g4⟩ := h2
  clear ha hb
  refine R26 (by simp) ?_
  simp -implicitDefEqProofs (disch := omega) only [i26_0, i26_1, i26_2, i26_3, i26, Kept.enc, zS, State.step, State.pure, State.pure.capsOf, arrGo, State.ghosts, State.ghost, State.srcRows, State.arrRows, State.pure.fillC, State.bound, State.rd, takeC, args0, State.res, State.res1, State.resS, State.resL, normS, AC.pure, splice, ↓reduceIte, Nat.reduceEqDiff, Nat.reduceLT, Nat.reduceLeDiff, Nat.reduceAdd, Nat.reduceSub, Nat.reduceMul, Int.reduceLE, Int.reduceLT, Int.reduceToNat, Int.reduceEq, Int.reduceNe, Int.reduceAdd, Int.reduceMul, Int.reducePow, Int.reduceNeg, Nat.reduceBEq, Int.reduceBNe, Int.reduceBEq, reduceCtorEq, ne_eq, IntWalk.iteOmega]
  repeat' (first | ((with_reducible first | refine gIf_dT (fun h h' => ?_) (fun h h' => ?_) | refine gIf_dF (fun h h' => ?_) (fun h h' => ?_) | refine gCond_d (fun h h' => ?_) (fun h h' => ?_) | refine gIf_bT (fun h h' => ?_) (fun h h' => ?_) | refine gIf_bF (fun h h' => ?_) (fun h h' => ?_) | refine gCond_b (fun h h' => ?_) (fun h h' => ?_)) <;> (simp -implicitDefEqProofs (disch := omega) only [h', zS, State.step, State.pure, State.pure.capsOf, arrGo, State.ghosts, State.ghost, State.srcRows, State.arrRows, State.pure.fillC, State.bound, State.rd, takeC, args0, State.res, State.res1, State.resS, State.resL, normS, AC.pure, splice, ↓reduceIte, Nat.reduceEqDiff, Nat.reduceLT, Nat.reduceLeDiff, Nat.reduceAdd, Nat.reduceSub, Nat.reduceMul, Int.reduceLE, Int.reduceLT, Int.reduceToNat, Int.reduceEq, Int.reduceNe, Int.reduceAdd, Int.reduceMul, Int.reducePow, Int.reduceNeg, Nat.reduceBEq, Int.reduceBNe, Int.reduceBEq, reduceCtorEq, ne_eq, IntWalk.iteOmega] <;> clear h')))
  all_goals
    (refine fin_pure rfl ?_ not_x_r; simp only [rs26, zS, State.step, State.pure, State.pure.capsOf, arrGo, State.ghosts, State.ghost, State.srcRows, State.arrRows, State.pure.fillC, State.bound, State.rd, takeC, args0, State.res, State.res1, State.resS, State.resL, normS, AC.pure, splice, ↓reduceIte, Nat.reduceEqDiff, Nat.reduceLT, Nat.reduceLeDiff, Nat.reduceAdd, Nat.reduceSub, Nat.reduceMul, Int.reduceLE, Int.reduceLT, Int.reduceToNat, Int.reduceEq, Int.reduceNe, Int.reduceAdd, Int.reduceMul, Int.reducePow, Int.reduceNeg, Nat.reduceBEq, Int.reduceBNe, Int.reduceBEq, reduceCtorEq, ne_eq, IntWalk.iteOmega]) <;> simp_all [cmpK]
theorem T26r (a b : Kept) (now : Int) (ha : Right a now) (hb : right b now = true) : RunsTo Try.prog 26 [.agg a.enc, .agg b.enc] [] (.c (.int .i64 (cmpK a b))) [] :=
  T26m a b ha.small.mid (Right.small (of_decide_eq_true hb)).mid
theorem L12 (c : Cache) (hc : c.Ok) (K : AX → State → Prop)
    (hK : ∀ X j, chkL c.now none c.items = 0 → K (.x 0) ⟨[(1, .c (.ptr (some (0, 0)))), (24, .c (.list 0 7 (rowsK c.items))), (25, .c (.int .i64 c.items.length)), (26, .c (.int .i64 j)), (27, .c (.bool false))], .cells c.enc :: X⟩)
    (hR : ∀ e H, chkL c.now none c.items = e → e ≠ 0 → K .r ⟨[(2, .c (.int .i64 e))], H⟩) :
    ∀ (post pre : List Kept), pre ++ post = c.items → chkL c.now none c.items = chkL c.now pre.getLast? post → (∀ k ∈ pre, Right k c.now) → ∀ X, (IR.loop [] i12_L0).go Try.prog ⟨[(1, .c (.ptr (some (0, 0)))), (24, .c (.list 0 7 (rowsK c.items))), (25, .c (.int .i64 c.items.length)), (26, .c (.int .i64 pre.length))], .cells c.enc :: X⟩ K := by
  have hn := hc.few
  intro post
  induction post with
  | nil =>
    intro pre hp hs hr X
    have hl : c.items.length = pre.length := by rw [← hp]; simp
    refine go_loop fun L hL => ?_
    simp -implicitDefEqProofs (disch := omega) only [i12_0, i12_1, i12_2, i12_3, i12_4, i12_5, i12_6, i12_7, i12_8, i12_9, i12_10, i12_11, i12_12, i12_13, i12_K0, i12, i12_L0, rowsK_len, hl, Cache.enc, zS, State.step, State.pure, State.pure.capsOf, arrGo, State.ghosts, State.ghost, State.srcRows, State.arrRows, State.pure.fillC, State.bound, State.rd, takeC, args0, State.res, State.res1, State.resS, State.resL, normS, AC.pure, splice, ↓reduceIte, Nat.reduceEqDiff, Nat.reduceLT, Nat.reduceLeDiff, Nat.reduceAdd, Nat.reduceSub, Nat.reduceMul, Int.reduceLE, Int.reduceLT, Int.reduceToNat, Int.reduceEq, Int.reduceNe, Int.reduceAdd, Int.reduceMul, Int.reducePow, Int.reduceNeg, Nat.reduceBEq, Int.reduceBNe, Int.reduceBEq, reduceCtorEq, ne_eq, IntWalk.iteOmega]
    rw [hL]; rw [← hl]; exact hK _ _ (by rw [hs]; rfl)
  | cons x post ih =>
    intro pre hp hs hr X
    have hget := row_at hp
    have hlt : (pre.length : Int) < c.items.length := by rw [← hp]; simp; omega
    have hx : x.Ok := hc.items x (by rw [← hp]; simp)
    have h25 := T25 x c.now hx hc.now
    have hN : Fine c.now pre.getLast? x → ¬ x.last < c.now → _ := fun e e2 => ih (pre ++ [x]) (by rw [← hp]; simp) (by rw [hs, chkL_go e e2]; simp) (fun k hk => by
      rcases List.mem_append.1 hk with h | h
      · exact hr k h
      · simp at h; rw [h]; exact e.1)
    simp only [List.length_append, List.length_cons, List.length_nil] at hN
    have hB : ∀ H, ¬ Fine c.now pre.getLast? x → K .r ⟨[(2, .c (.int .i64 1))], H⟩ := fun H e => hR 1 H (by rw [hs, chkL_bad e]) (by decide)
    have hD : ∀ H, Fine c.now pre.getLast? x → x.last < c.now → K .r ⟨[(2, .c (.int .i64 18))], H⟩ := fun H e e2 => hR 18 H (by rw [hs, chkL_dead e e2]) (by decide)
    refine go_loop fun L hL => ?_
    rcases List.eq_nil_or_concat pre with he | ⟨pre', q, he⟩ <;> (try rw [List.concat_eq_append] at he)
    · subst he
      have hlt0 : (0 : Int) < c.items.length := by simpa using hlt
      have hget0 : (rowsK c.items)[0]? = some x.enc := by simpa using hget
      have hF : Fine c.now none x ↔ (right x c.now = true ∧ x.since ≤ x.used ∧ x.used ≤ c.now) := by simp [Fine, right, Bef]
      simp only [List.getLast?_nil] at hN hB hD
      simp -implicitDefEqProofs (disch := omega) only [i12_0, i12_1, i12_2, i12_3, i12_4, i12_5, i12_6, i12_7, i12_8, i12_9, i12_10, i12_11, i12_12, i12_13, i12_K0, i12, i12_L0, hlt0, hget0, Kept.enc, rowsK_len, Cache.enc, List.length_nil, Int.natCast_zero, zS, State.step, State.pure, State.pure.capsOf, arrGo, State.ghosts, State.ghost, State.srcRows, State.arrRows, State.pure.fillC, State.bound, State.rd, takeC, args0, State.res, State.res1, State.resS, State.resL, normS, AC.pure, splice, ↓reduceIte, Nat.reduceEqDiff, Nat.reduceLT, Nat.reduceLeDiff, Nat.reduceAdd, Nat.reduceSub, Nat.reduceMul, Int.reduceLE, Int.reduceLT, Int.reduceToNat, Int.reduceEq, Int.reduceNe, Int.reduceAdd, Int.reduceMul, Int.reducePow, Int.reduceNeg, Nat.reduceBEq, Int.reduceBNe, Int.reduceBEq, reduceCtorEq, ne_eq, IntWalk.iteOmega]
      refine call_pure h25 rfl rfl ?_
      simp -implicitDefEqProofs (disch := omega) only [zS, State.step, State.pure, State.pure.capsOf, arrGo, State.ghosts, State.ghost, State.srcRows, State.arrRows, State.pure.fillC, State.bound, State.rd, takeC, args0, State.res, State.res1, State.resS, State.resL, normS, AC.pure, splice, ↓reduceIte, Nat.reduceEqDiff, Nat.reduceLT, Nat.reduceLeDiff, Nat.reduceAdd, Nat.reduceSub, Nat.reduceMul, Int.reduceLE, Int.reduceLT, Int.reduceToNat, Int.reduceEq, Int.reduceNe, Int.reduceAdd, Int.reduceMul, Int.reducePow, Int.reduceNeg, Nat.reduceBEq, Int.reduceBNe, Int.reduceBEq, reduceCtorEq, ne_eq, IntWalk.iteOmega]
      repeat' (first | ((with_reducible first | refine gIf_dT (fun h h' => ?_) (fun h h' => ?_) | refine gIf_dF (fun h h' => ?_) (fun h h' => ?_) | refine gCond_d (fun h h' => ?_) (fun h h' => ?_) | refine gIf_bT (fun h h' => ?_) (fun h h' => ?_) | refine gIf_bF (fun h h' => ?_) (fun h h' => ?_) | refine gCond_b (fun h h' => ?_) (fun h h' => ?_)) <;> (simp -implicitDefEqProofs (disch := omega) only [h', zS, State.step, State.pure, State.pure.capsOf, arrGo, State.ghosts, State.ghost, State.srcRows, State.arrRows, State.pure.fillC, State.bound, State.rd, takeC, args0, State.res, State.res1, State.resS, State.resL, normS, AC.pure, splice, ↓reduceIte, Nat.reduceEqDiff, Nat.reduceLT, Nat.reduceLeDiff, Nat.reduceAdd, Nat.reduceSub, Nat.reduceMul, Int.reduceLE, Int.reduceLT, Int.reduceToNat, Int.reduceEq, Int.reduceNe, Int.reduceAdd, Int.reduceMul, Int.reducePow, Int.reduceNeg, Nat.reduceBEq, Int.reduceBNe, Int.reduceBEq, reduceCtorEq, ne_eq, IntWalk.iteOmega] <;> clear h')))
      all_goals first
        | (rw [hL]; refine hB _ ?_; rw [hF]; simp_all; done)
        | (rw [hL]; refine hB _ ?_; rw [hF]; simp_all; omega)
        | (rw [hL]; refine hD _ ?_ ?_ <;> first | assumption | (rw [hF]; refine ⟨by assumption, ?_, ?_⟩ <;> omega))
        | (rw [hL]; refine hN ?_ ?_ _ <;> first | assumption | (rw [hF]; refine ⟨by assumption, ?_, ?_⟩ <;> omega))
    · subst he
      have hgq : (rowsK c.items)[pre'.length]? = some q.enc := row_at (post := x :: post) (by rw [← hp]; simp)
      have hrq : Right q c.now := hr q (by simp)
      have h26 := T26r q x c.now hrq
      have hF : Fine c.now (some q) x ↔ (right x c.now = true ∧ x.since ≤ x.used ∧ x.used ≤ c.now ∧ ¬ 0 ≤ cmpK q x) := by simp only [Fine, right, Bef, cmpK_ge, decide_eq_true_eq, Decidable.not_not]
      have hll : (pre' ++ [q]).length = pre'.length + 1 := by simp
      have hla : (pre' ++ [q]).getLast? = some q := by simp
      rw [hla] at hN hB hD
      have f0 : (0 < ((pre'.length + 1 : Nat) : Int)) = True := eq_true (by omega)
      have f1 : ((pre'.length + 1 : Nat) : Int) - 1 = (pre'.length : Int) := by omega
      simp only [List.length_append, List.length_cons, List.length_nil, Nat.zero_add] at hN
      rw [hll] at hlt hget ⊢
      clear hr hrq
      simp -implicitDefEqProofs (disch := omega) only [i12_0, i12_1, i12_2, i12_3, i12_4, i12_5, i12_6, i12_7, i12_8, i12_9, i12_10, i12_11, i12_12, i12_13, i12_K0, i12, i12_L0, hlt, hget, hgq, Kept.enc, rowsK_len, Cache.enc, f0, f1, zS, State.step, State.pure, State.pure.capsOf, arrGo, State.ghosts, State.ghost, State.srcRows, State.arrRows, State.pure.fillC, State.bound, State.rd, takeC, args0, State.res, State.res1, State.resS, State.resL, normS, AC.pure, splice, ↓reduceIte, Nat.reduceEqDiff, Nat.reduceLT, Nat.reduceLeDiff, Nat.reduceAdd, Nat.reduceSub, Nat.reduceMul, Int.reduceLE, Int.reduceLT, Int.reduceToNat, Int.reduceEq, Int.reduceNe, Int.reduceAdd, Int.reduceMul, Int.reducePow, Int.reduceNeg, Nat.reduceBEq, Int.reduceBNe, Int.reduceBEq, reduceCtorEq, ne_eq, IntWalk.iteOmega]
      refine call_pure h25 rfl rfl ?_
      simp -implicitDefEqProofs (disch := omega) only [hlt, hget, hgq, Kept.enc, rowsK_len, Cache.enc, f0, f1, zS, State.step, State.pure, State.pure.capsOf, arrGo, State.ghosts, State.ghost, State.srcRows, State.arrRows, State.pure.fillC, State.bound, State.rd, takeC, args0, State.res, State.res1, State.resS, State.resL, normS, AC.pure, splice, ↓reduceIte, Nat.reduceEqDiff, Nat.reduceLT, Nat.reduceLeDiff, Nat.reduceAdd, Nat.reduceSub, Nat.reduceMul, Int.reduceLE, Int.reduceLT, Int.reduceToNat, Int.reduceEq, Int.reduceNe, Int.reduceAdd, Int.reduceMul, Int.reducePow, Int.reduceNeg, Nat.reduceBEq, Int.reduceBNe, Int.reduceBEq, reduceCtorEq, ne_eq, IntWalk.iteOmega]
      repeat' (first
        | ((with_reducible first | refine gIf_dT (fun h h' => ?_) (fun h h' => ?_) | refine gIf_dF (fun h h' => ?_) (fun h h' => ?_) | refine gCond_d (fun h h' => ?_) (fun h h' => ?_) | refine gIf_bT (fun h h' => ?_) (fun h h' => ?_) | refine gIf_bF (fun h h' => ?_) (fun h h' => ?_) | refine gCond_b (fun h h' => ?_) (fun h h' => ?_)) <;> (simp -implicitDefEqProofs (disch := omega) only [h', hlt, hget, hgq, Kept.enc, rowsK_len, Cache.enc, f0, f1, zS, State.step, State.pure, State.pure.capsOf, arrGo, State.ghosts, State.ghost, State.srcRows, State.arrRows, State.pure.fillC, State.bound, State.rd, takeC, args0, State.res, State.res1, State.resS, State.resL, normS, AC.pure, splice, ↓reduceIte, Nat.reduceEqDiff, Nat.reduceLT, Nat.reduceLeDiff, Nat.reduceAdd, Nat.reduceSub, Nat.reduceMul, Int.reduceLE, Int.reduceLT, Int.reduceToNat, Int.reduceEq, Int.reduceNe, Int.reduceAdd, Int.reduceMul, Int.reducePow, Int.reduceNeg, Nat.reduceBEq, Int.reduceBNe, Int.reduceBEq, reduceCtorEq, ne_eq, IntWalk.iteOmega] <;> clear h'))
        | (refine call_pure (h26 (by assumption)) rfl rfl ?_; simp -implicitDefEqProofs (disch := omega) only [zS, State.step, State.pure, State.pure.capsOf, arrGo, State.ghosts, State.ghost, State.srcRows, State.arrRows, State.pure.fillC, State.bound, State.rd, takeC, args0, State.res, State.res1, State.resS, State.resL, normS, AC.pure, splice, ↓reduceIte, Nat.reduceEqDiff, Nat.reduceLT, Nat.reduceLeDiff, Nat.reduceAdd, Nat.reduceSub, Nat.reduceMul, Int.reduceLE, Int.reduceLT, Int.reduceToNat, Int.reduceEq, Int.reduceNe, Int.reduceAdd, Int.reduceMul, Int.reducePow, Int.reduceNeg, Nat.reduceBEq, Int.reduceBNe, Int.reduceBEq, reduceCtorEq, ne_eq, IntWalk.iteOmega]))
      all_goals first
        | (rw [hL]; refine hB _ ?_; rw [hF]; simp_all; done)
        | (rw [hL]; refine hB _ ?_; rw [hF]; simp_all; omega)
        | (rw [hL]; refine hD _ ?_ ?_ <;> first | assumption | (rw [hF]; refine ⟨by assumption, ?_, ?_, by assumption⟩ <;> omega))
        | (rw [hL]; refine hN ?_ ?_ _ <;> first | assumption | (rw [hF]; refine ⟨by assumption, ?_, ?_, by assumption⟩ <;> omega))
theorem T12 (c : Cache) (hc : c.Ok) : RunsTo Try.prog 12 [.agg c.enc] [] (.c (.int .i64 (check c))) [] := by
  have h27 := T27 c.items hc.few hc.tot
  refine R12 (by simp) ?_
  simp -implicitDefEqProofs (disch := omega) only [i12_0, i12_1, i12_2, i12_3, i12_4, i12_5, i12_6, i12_7, i12_8, i12_9, i12_10, i12_11, i12_12, i12_13, i12_K0, i12, Cache.enc, zS, State.step, State.pure, State.pure.capsOf, arrGo, State.ghosts, State.ghost, State.srcRows, State.arrRows, State.pure.fillC, State.bound, State.rd, takeC, args0, State.res, State.res1, State.resS, State.resL, normS, AC.pure, splice, ↓reduceIte, Nat.reduceEqDiff, Nat.reduceLT, Nat.reduceLeDiff, Nat.reduceAdd, Nat.reduceSub, Nat.reduceMul, Int.reduceLE, Int.reduceLT, Int.reduceToNat, Int.reduceEq, Int.reduceNe, Int.reduceAdd, Int.reduceMul, Int.reducePow, Int.reduceNeg, Nat.reduceBEq, Int.reduceBNe, Int.reduceBEq, reduceCtorEq, ne_eq, IntWalk.iteOmega]
  repeat' (first | ((with_reducible first | refine gIf_dT (fun h h' => ?_) (fun h h' => ?_) | refine gIf_dF (fun h h' => ?_) (fun h h' => ?_) | refine gCond_d (fun h h' => ?_) (fun h h' => ?_) | refine gIf_bT (fun h h' => ?_) (fun h h' => ?_) | refine gIf_bF (fun h h' => ?_) (fun h h' => ?_) | refine gCond_b (fun h h' => ?_) (fun h h' => ?_)) <;> (simp -implicitDefEqProofs (disch := omega) only [h', rowsK_len, zS, State.step, State.pure, State.pure.capsOf, arrGo, State.ghosts, State.ghost, State.srcRows, State.arrRows, State.pure.fillC, State.bound, State.rd, takeC, args0, State.res, State.res1, State.resS, State.resL, normS, AC.pure, splice, ↓reduceIte, Nat.reduceEqDiff, Nat.reduceLT, Nat.reduceLeDiff, Nat.reduceAdd, Nat.reduceSub, Nat.reduceMul, Int.reduceLE, Int.reduceLT, Int.reduceToNat, Int.reduceEq, Int.reduceNe, Int.reduceAdd, Int.reduceMul, Int.reducePow, Int.reduceNeg, Nat.reduceBEq, Int.reduceBNe, Int.reduceBEq, reduceCtorEq, ne_eq, IntWalk.iteOmega] <;> clear h')))
  all_goals first
    | ((refine fin_pure rfl ?_ not_x_r; simp only [rs12, zS, State.step, State.pure, State.pure.capsOf, arrGo, State.ghosts, State.ghost, State.srcRows, State.arrRows, State.pure.fillC, State.bound, State.rd, takeC, args0, State.res, State.res1, State.resS, State.resL, normS, AC.pure, splice, ↓reduceIte, Nat.reduceEqDiff, Nat.reduceLT, Nat.reduceLeDiff, Nat.reduceAdd, Nat.reduceSub, Nat.reduceMul, Int.reduceLE, Int.reduceLT, Int.reduceToNat, Int.reduceEq, Int.reduceNe, Int.reduceAdd, Int.reduceMul, Int.reducePow, Int.reduceNeg, Nat.reduceBEq, Int.reduceBNe, Int.reduceBEq, reduceCtorEq, ne_eq, IntWalk.iteOmega]); rw [check, if_pos (by omega)]; done)
    | skip
  refine L12 c hc _ (fun X j e => ?_) (fun e H h1 h2 => ?_) c.items [] rfl rfl (by simp) _
  · simp -implicitDefEqProofs (disch := omega) only [i12_0, i12_1, i12_2, i12_3, i12_4, i12_5, i12_6, i12_7, i12_8, i12_9, i12_10, i12_11, i12_12, i12_13, i12_K0, i12, Cache.enc, zS, State.step, State.pure, State.pure.capsOf, arrGo, State.ghosts, State.ghost, State.srcRows, State.arrRows, State.pure.fillC, State.bound, State.rd, takeC, args0, State.res, State.res1, State.resS, State.resL, normS, AC.pure, splice, ↓reduceIte, Nat.reduceEqDiff, Nat.reduceLT, Nat.reduceLeDiff, Nat.reduceAdd, Nat.reduceSub, Nat.reduceMul, Int.reduceLE, Int.reduceLT, Int.reduceToNat, Int.reduceEq, Int.reduceNe, Int.reduceAdd, Int.reduceMul, Int.reducePow, Int.reduceNeg, Nat.reduceBEq, Int.reduceBNe, Int.reduceBEq, reduceCtorEq, ne_eq, IntWalk.iteOmega]
    refine call_pure h27 rfl rfl ?_
    simp -implicitDefEqProofs (disch := omega) only [zS, State.step, State.pure, State.pure.capsOf, arrGo, State.ghosts, State.ghost, State.srcRows, State.arrRows, State.pure.fillC, State.bound, State.rd, takeC, args0, State.res, State.res1, State.resS, State.resL, normS, AC.pure, splice, ↓reduceIte, Nat.reduceEqDiff, Nat.reduceLT, Nat.reduceLeDiff, Nat.reduceAdd, Nat.reduceSub, Nat.reduceMul, Int.reduceLE, Int.reduceLT, Int.reduceToNat, Int.reduceEq, Int.reduceNe, Int.reduceAdd, Int.reduceMul, Int.reducePow, Int.reduceNeg, Nat.reduceBEq, Int.reduceBNe, Int.reduceBEq, reduceCtorEq, ne_eq, IntWalk.iteOmega]
    repeat' (first | ((with_reducible first | refine gIf_dT (fun h h' => ?_) (fun h h' => ?_) | refine gIf_dF (fun h h' => ?_) (fun h h' => ?_) | refine gCond_d (fun h h' => ?_) (fun h h' => ?_) | refine gIf_bT (fun h h' => ?_) (fun h h' => ?_) | refine gIf_bF (fun h h' => ?_) (fun h h' => ?_) | refine gCond_b (fun h h' => ?_) (fun h h' => ?_)) <;> (simp -implicitDefEqProofs (disch := omega) only [h', zS, State.step, State.pure, State.pure.capsOf, arrGo, State.ghosts, State.ghost, State.srcRows, State.arrRows, State.pure.fillC, State.bound, State.rd, takeC, args0, State.res, State.res1, State.resS, State.resL, normS, AC.pure, splice, ↓reduceIte, Nat.reduceEqDiff, Nat.reduceLT, Nat.reduceLeDiff, Nat.reduceAdd, Nat.reduceSub, Nat.reduceMul, Int.reduceLE, Int.reduceLT, Int.reduceToNat, Int.reduceEq, Int.reduceNe, Int.reduceAdd, Int.reduceMul, Int.reducePow, Int.reduceNeg, Nat.reduceBEq, Int.reduceBNe, Int.reduceBEq, reduceCtorEq, ne_eq, IntWalk.iteOmega] <;> clear h')))
    · (refine fin_pure rfl ?_ not_x_r; simp only [rs12, zS, State.step, State.pure, State.pure.capsOf, arrGo, State.ghosts, State.ghost, State.srcRows, State.arrRows, State.pure.fillC, State.bound, State.rd, takeC, args0, State.res, State.res1, State.resS, State.resL, normS, AC.pure, splice, ↓reduceIte, Nat.reduceEqDiff, Nat.reduceLT, Nat.reduceLeDiff, Nat.reduceAdd, Nat.reduceSub, Nat.reduceMul, Int.reduceLE, Int.reduceLT, Int.reduceToNat, Int.reduceEq, Int.reduceNe, Int.reduceAdd, Int.reduceMul, Int.reducePow, Int.reduceNeg, Nat.reduceBEq, Int.reduceBNe, Int.reduceBEq, reduceCtorEq, ne_eq, IntWalk.iteOmega])
      rw [check, if_neg (by omega), if_neg (by simpa using e), if_pos (by assumption)]
    · (refine fin_pure rfl ?_ not_x_r; simp only [rs12, zS, State.step, State.pure, State.pure.capsOf, arrGo, State.ghosts, State.ghost, State.srcRows, State.arrRows, State.pure.fillC, State.bound, State.rd, takeC, args0, State.res, State.res1, State.resS, State.resL, normS, AC.pure, splice, ↓reduceIte, Nat.reduceEqDiff, Nat.reduceLT, Nat.reduceLeDiff, Nat.reduceAdd, Nat.reduceSub, Nat.reduceMul, Int.reduceLE, Int.reduceLT, Int.reduceToNat, Int.reduceEq, Int.reduceNe, Int.reduceAdd, Int.reduceMul, Int.reducePow, Int.reduceNeg, Nat.reduceBEq, Int.reduceBNe, Int.reduceBEq, reduceCtorEq, ne_eq, IntWalk.iteOmega])
      rw [check, if_neg (by omega), if_neg (by simpa using e), if_neg (by assumption)]
  · simp -implicitDefEqProofs (disch := omega) only [zS, State.step, State.pure, State.pure.capsOf, arrGo, State.ghosts, State.ghost, State.srcRows, State.arrRows, State.pure.fillC, State.bound, State.rd, takeC, args0, State.res, State.res1, State.resS, State.resL, normS, AC.pure, splice, ↓reduceIte, Nat.reduceEqDiff, Nat.reduceLT, Nat.reduceLeDiff, Nat.reduceAdd, Nat.reduceSub, Nat.reduceMul, Int.reduceLE, Int.reduceLT, Int.reduceToNat, Int.reduceEq, Int.reduceNe, Int.reduceAdd, Int.reduceMul, Int.reducePow, Int.reduceNeg, Nat.reduceBEq, Int.reduceBNe, Int.reduceBEq, reduceCtorEq, ne_eq, IntWalk.iteOmega]
    (refine fin_pure rfl ?_ not_x_r; simp only [rs12, zS, State.step, State.pure, State.pure.capsOf, arrGo, State.ghosts, State.ghost, State.srcRows, State.arrRows, State.pure.fillC, State.bound, State.rd, takeC, args0, State.res, State.res1, State.resS, State.resL, normS, AC.pure, splice, ↓reduceIte, Nat.reduceEqDiff, Nat.reduceLT, Nat.reduceLeDiff, Nat.reduceAdd, Nat.reduceSub, Nat.reduceMul, Int.reduceLE, Int.reduceLT, Int.reduceToNat, Int.reduceEq, Int.reduceNe, Int.reduceAdd, Int.reduceMul, Int.reducePow, Int.reduceNeg, Nat.reduceBEq, Int.reduceBNe, Int.reduceBEq, reduceCtorEq, ne_eq, IntWalk.iteOmega])
    rw [check, if_neg (by omega), if_pos (by rw [h1]; exact h2), h1]
end Go.Proofs.Ytimapebigcmbmaa

set_option linter.unusedVariables false
set_option linter.unusedSimpArgs false
namespace Go.Proofs.Ytimapebigcmbmaa
open Go Go.AI Go.Proofs

theorem Before.trans {a b c : Kept} (h : Before a b) (k : Before b c) : Before a c := by unfold Before at *; omega
theorem Before.irrefl (a : Kept) : ¬ Before a a := by unfold Before; omega
def SameKey (a b : Kept) : Prop := a.object = b.object ∧ a.chunk = b.chunk
instance (a b : Kept) : Decidable (SameKey a b) := by unfold SameKey; infer_instance
/-- The place of a chunk, or where it would be. -/
def pos (l : List Kept) (t : Kept) : Nat := (l.takeWhile fun k => before k t).length
theorem pos_le (l : List Kept) (t : Kept) : pos l t ≤ l.length := by
  unfold pos
  induction l with
  | nil => simp
  | cons k l ih => simp only [List.takeWhile_cons]; split <;> simp <;> omega
theorem pos_lt {l : List Kept} (hs : l.Pairwise Before) (t : Kept) : ∀ (i : Nat) (x : Kept), l[i]? = some x → (Before x t ↔ i < pos l t) := by
  induction l with
  | nil => intro i x h; simp at h
  | cons k l ih =>
    obtain ⟨h1, h2⟩ := List.pairwise_cons.1 hs
    intro i x hx
    unfold pos
    rw [List.takeWhile_cons]
    by_cases hk : Before k t
    · have : before k t = true := decide_eq_true hk
      rw [if_pos this]
      cases i with
      | zero => simp at hx; subst hx; simp [hk]
      | succ i =>
        simp only [List.getElem?_cons_succ] at hx
        have := ih h2 i x hx
        unfold pos at this
        rw [this]; simp only [List.length_cons]; omega
    · have : before k t = false := decide_eq_false hk
      rw [if_neg (by simp [this])]
      cases i with
      | zero => simp at hx; subst hx; simp [hk]
      | succ i =>
        simp only [List.getElem?_cons_succ] at hx
        have hb := h1 x (List.mem_of_getElem? hx)
        simp only [List.length_nil, Nat.not_lt_zero, iff_false]
        exact fun h => hk (hb.trans h)
def there (l : List Kept) (t : Kept) : Bool := decide (∃ k ∈ l, SameKey k t)
theorem there_iff {l : List Kept} (hs : l.Pairwise Before) (t : Kept) : (there l t = true ↔ ∃ x, l[pos l t]? = some x ∧ SameKey x t) := by
  simp only [there, decide_eq_true_eq]
  constructor
  · rintro ⟨k, hk, hsame⟩
    obtain ⟨i, hi⟩ := List.getElem?_of_mem hk
    have h1 := pos_lt hs t i k hi
    have hnb : ¬ Before k t := by unfold Before; unfold SameKey at hsame; omega
    have hge : pos l t ≤ i := by
      apply Nat.le_of_not_lt; intro hh; exact hnb (h1.2 hh)
    by_cases he : pos l t = i
    · rw [he]; exact ⟨k, hi, hsame⟩
    · exfalso
      have hlt : i < l.length := (List.getElem?_eq_some_iff.1 hi).1
      have hp : pos l t < l.length := by omega
      have hb := List.pairwise_iff_getElem.1 hs (pos l t) i hp hlt (by omega)
      rw [(List.getElem?_eq_some_iff.1 hi).2] at hb
      have : Before l[pos l t] t := by unfold Before at *; unfold SameKey at hsame; omega
      have := (pos_lt hs t (pos l t) _ (List.getElem?_eq_getElem hp)).1 this
      omega
  · rintro ⟨x, hx, hsame⟩
    exact ⟨x, List.mem_of_getElem? hx, hsame⟩
theorem chkL_sorted {now : Int} : ∀ {l : List Kept} {p : Option Kept}, chkL now p l = 0 → l.Pairwise Before ∧ (∀ q, p = some q → ∀ k ∈ l, Before q k) ∧ (∀ k ∈ l, Right k now ∧ k.since ≤ k.used ∧ k.used ≤ now ∧ now ≤ k.last) := by
  intro l
  induction l with
  | nil => intro p _; simp
  | cons k l ih =>
    intro p h
    simp only [chkL] at h
    split at h
    · simp at h
    · rename_i hf
      split at h
      · simp at h
      · rename_i hd
        have hf : Fine now p k := Decidable.not_not.1 hf
        obtain ⟨h1, h2, h3⟩ := ih h
        refine ⟨List.pairwise_cons.2 ⟨fun x hx => h2 k rfl x hx, h1⟩, fun q hq x hx => ?_, fun x hx => ?_⟩
        · subst hq
          have hqk : Before q k := hf.2.2.2
          rcases List.mem_cons.1 hx with rfl | hx
          · exact hqk
          · exact hqk.trans (h2 k rfl x hx)
        · rcases List.mem_cons.1 hx with rfl | hx
          · exact ⟨hf.1, hf.2.1, hf.2.2.1, by omega⟩
          · exact h3 x hx
/-- What a check without an error tells. -/
structure Good (c : Cache) : Prop where
  room : 0 ≤ c.room ∧ c.room ≤ 1048576
  now : 0 ≤ c.now ∧ c.now ≤ 1000000
  sorted : c.items.Pairwise Before
  right : ∀ k ∈ c.items, Right k c.now ∧ k.since ≤ k.used ∧ k.used ≤ c.now ∧ c.now ≤ k.last
  fits : (tot c.items : Int) ≤ c.room
theorem check_good {c : Cache} (h : check c = 0) : Good c := by
  unfold check at h
  split at h
  · simp at h
  · rename_i h1
    split at h
    · rename_i h2; exact absurd h h2
    · rename_i h2
      split at h
      · simp at h
      · rename_i h3
        have h2 : chkL c.now none c.items = 0 := Decidable.not_not.1 h2
        obtain ⟨q1, _, q3⟩ := chkL_sorted h2
        exact ⟨by omega, by omega, q1, q3, by omega⟩
theorem chkL_of {now : Int} : ∀ {l : List Kept} {p : Option Kept}, l.Pairwise Before → (∀ q, p = some q → ∀ k ∈ l, Before q k) → (∀ k ∈ l, Right k now ∧ k.since ≤ k.used ∧ k.used ≤ now ∧ now ≤ k.last) → chkL now p l = 0 := by
  intro l
  induction l with
  | nil => intro p _ _ _; rfl
  | cons k l ih =>
    intro p h1 h2 h3
    obtain ⟨g1, g2⟩ := List.pairwise_cons.1 h1
    obtain ⟨r1, r2, r3, r4⟩ := h3 k (by simp)
    have hb : Bef p k := by
      cases p with
      | none => trivial
      | some q => exact h2 q rfl k (by simp)
    rw [chkL_go ⟨r1, r2, r3, hb⟩ (by omega)]
    exact ih g2 (fun q hq => by obtain rfl := Option.some.inj hq; exact g1) (fun x hx => h3 x (List.mem_cons_of_mem _ hx))
theorem good_check {c : Cache} (h : Good c) : check c = 0 := by
  obtain ⟨h1, h2, h3, h4, h5⟩ := h
  unfold check
  rw [if_neg (by omega), if_neg (by rw [chkL_of h3 (by simp) h4]; simp), if_neg (by omega)]
end Go.Proofs.Ytimapebigcmbmaa

set_option linter.unusedVariables false
set_option linter.unusedSimpArgs false
namespace Go.Proofs.Ytimapebigcmbmaa
open Go Go.AI Go.Proofs

theorem wrap0 (d : Int) (h1 : -18446744073709551616 < d) (h2 : d < 18446744073709551616) : IntKind.i64.wrap d = 0 ↔ d = 0 := by
  constructor
  · intro h
    unfold IntKind.wrap at h
    simp [IntKind.signed, IntKind.bits] at h
    omega
  · rintro rfl; rfl
/-- The comparison of chunks, as it wraps. -/
def cmpW (a b : Kept) : Int := if a.object = b.object then IntKind.i64.wrap (a.chunk - b.chunk) else IntKind.i64.wrap (a.object - b.object)
theorem cmpW_mid {a b : Kept} (ha : Mid a) (hb : Mid b) : cmpW a b = cmpK a b := by
  unfold Mid at ha hb
  unfold cmpW cmpK
  rw [IntWalk.i64_in (a.chunk - b.chunk) (by omega), IntWalk.i64_in (a.object - b.object) (by omega)]
theorem cmpW_eq {a b : Kept} (ha : a.Ok) (hb : b.Ok) : cmpW a b = 0 ↔ SameKey a b := by
  have := ha.object; have := hb.object; have := ha.chunk; have := hb.chunk
  unfold I64 at *
  unfold cmpW SameKey
  split
  · rename_i h; rw [wrap0 _ (by omega) (by omega)]; omega
  · rename_i h; rw [wrap0 _ (by omega) (by omega)]; omega
theorem T26w (a b : Kept) : RunsTo Try.prog 26 [.agg a.enc, .agg b.enc] [] (.c (.int .i64 (cmpW a b))) [] := by
  refine R26 (by simp) ?_
  simp -implicitDefEqProofs (disch := omega) only [i26_0, i26_1, i26_2, i26_3, i26, Kept.enc, zS, State.step, State.pure, State.pure.capsOf, arrGo, State.ghosts, State.ghost, State.srcRows, State.arrRows, State.pure.fillC, State.bound, State.rd, takeC, args0, State.res, State.res1, State.resS, State.resL, normS, AC.pure, splice, ↓reduceIte, Nat.reduceEqDiff, Nat.reduceLT, Nat.reduceLeDiff, Nat.reduceAdd, Nat.reduceSub, Nat.reduceMul, Int.reduceLE, Int.reduceLT, Int.reduceToNat, Int.reduceEq, Int.reduceNe, Int.reduceAdd, Int.reduceMul, Int.reducePow, Int.reduceNeg, Nat.reduceBEq, Int.reduceBNe, Int.reduceBEq, reduceCtorEq, ne_eq, IntWalk.iteOmega]
  repeat' (first | ((with_reducible first | refine gIf_dT (fun h h' => ?_) (fun h h' => ?_) | refine gIf_dF (fun h h' => ?_) (fun h h' => ?_) | refine gCond_d (fun h h' => ?_) (fun h h' => ?_) | refine gIf_bT (fun h h' => ?_) (fun h h' => ?_) | refine gIf_bF (fun h h' => ?_) (fun h h' => ?_) | refine gCond_b (fun h h' => ?_) (fun h h' => ?_)) <;> (simp -implicitDefEqProofs (disch := omega) only [h', zS, State.step, State.pure, State.pure.capsOf, arrGo, State.ghosts, State.ghost, State.srcRows, State.arrRows, State.pure.fillC, State.bound, State.rd, takeC, args0, State.res, State.res1, State.resS, State.resL, normS, AC.pure, splice, ↓reduceIte, Nat.reduceEqDiff, Nat.reduceLT, Nat.reduceLeDiff, Nat.reduceAdd, Nat.reduceSub, Nat.reduceMul, Int.reduceLE, Int.reduceLT, Int.reduceToNat, Int.reduceEq, Int.reduceNe, Int.reduceAdd, Int.reduceMul, Int.reducePow, Int.reduceNeg, Nat.reduceBEq, Int.reduceBNe, Int.reduceBEq, reduceCtorEq, ne_eq, IntWalk.iteOmega] <;> clear h')))
  all_goals
    (refine fin_pure rfl ?_ not_x_r; simp only [rs26, zS, State.step, State.pure, State.pure.capsOf, arrGo, State.ghosts, State.ghost, State.srcRows, State.arrRows, State.pure.fillC, State.bound, State.rd, takeC, args0, State.res, State.res1, State.resS, State.resL, normS, AC.pure, splice, ↓reduceIte, Nat.reduceEqDiff, Nat.reduceLT, Nat.reduceLeDiff, Nat.reduceAdd, Nat.reduceSub, Nat.reduceMul, Int.reduceLE, Int.reduceLT, Int.reduceToNat, Int.reduceEq, Int.reduceNe, Int.reduceAdd, Int.reduceMul, Int.reducePow, Int.reduceNeg, Nat.reduceBEq, Int.reduceBNe, Int.reduceBEq, reduceCtorEq, ne_eq, IntWalk.iteOmega]) <;> simp_all [cmpW]
/-- What the search does, whatever the order of the items is. -/
def bs (l : List Kept) (t : Kept) : Nat → Nat → Nat → Nat
  | 0, i, _ => i
  | m + 1, i, j => if i < j then match l[(i + j) / 2]? with
      | some x => if cmpW x t < 0 then bs l t m ((i + j) / 2 + 1) j else bs l t m i ((i + j) / 2)
      | none => i
    else i
theorem bs_le (l : List Kept) (t : Kept) : ∀ m i j, i ≤ j → bs l t m i j ≤ j := by
  intro m
  induction m with
  | zero => intro i j h; exact h
  | succ m ih =>
    intro i j h
    unfold bs
    split
    · split
      · split
        · exact ih _ _ (by omega)
        · exact Nat.le_trans (ih _ _ (by omega)) (by omega)
      · exact h
    · exact h
theorem bs_pos {l : List Kept} {t : Kept} (hm : ∀ k ∈ l, Mid k) (ht : Mid t) (hs : l.Pairwise Before) : ∀ m i j, j - i ≤ m → i ≤ pos l t → pos l t ≤ j → j ≤ l.length → bs l t m i j = pos l t := by
  intro m
  induction m with
  | zero => intro i j h1 h2 h3 h4; unfold bs; omega
  | succ m ih =>
    intro i j h1 h2 h3 h4
    unfold bs
    split
    · have hh : (i + j) / 2 < l.length := by omega
      have hp := pos_lt hs t ((i + j) / 2) _ (List.getElem?_eq_getElem hh)
      rw [List.getElem?_eq_getElem hh]
      simp only [cmpW_mid (hm _ (List.getElem_mem hh)) ht]
      split
      · rename_i c
        have := hp.1 ((cmpK_lt _ t).1 c)
        exact ih _ _ (by omega) (by omega) h3 h4
      · rename_i c
        have : ¬ (i + j) / 2 < pos l t := fun q => c ((cmpK_lt _ t).2 (hp.2 q))
        exact ih _ _ (by omega) h2 (by omega) (by omega)
    · omega
def found (l : List Kept) (t : Kept) : Nat := bs l t l.length 0 l.length
def foundB (l : List Kept) (t : Kept) : Bool := match l[found l t]? with
  | some x => decide (cmpW x t = 0)
  | none => false
theorem L43 (l : List Kept) (t : Kept) (hl : l.length ≤ 1000000) (K : AX → State → Prop) (r : Nat)
    (hK : ∀ j, K (.x 0) ⟨[(0, .c (.list 0 7 (rowsK l))), (2, .c (.fn 26 [])), (4, .c (.ptr (some (0, 0)))), (8, .c (.int .i64 l.length)), (9, .c (.int .i64 r)), (10, .c (.int .i64 j)), (17, .c (.bool false))], [.cells t.enc]⟩) :
    ∀ (m i j : Nat), j - i ≤ m → j ≤ l.length → bs l t m i j = r → (IR.loop [] i43_L0).go Try.prog ⟨[(0, .c (.list 0 7 (rowsK l))), (2, .c (.fn 26 [])), (4, .c (.ptr (some (0, 0)))), (8, .c (.int .i64 l.length)), (9, .c (.int .i64 i)), (10, .c (.int .i64 j))], [.cells t.enc]⟩ K := by
  intro m
  have done : ∀ (i j : Nat), ¬ i < j → i = r → (IR.loop [] i43_L0).go Try.prog ⟨[(0, .c (.list 0 7 (rowsK l))), (2, .c (.fn 26 [])), (4, .c (.ptr (some (0, 0)))), (8, .c (.int .i64 l.length)), (9, .c (.int .i64 i)), (10, .c (.int .i64 j))], [.cells t.enc]⟩ K := fun i j h1 h2 => by
    subst h2
    have f2 : ((i : Int) < (j : Int)) = False := eq_false (by omega)
    refine go_loop fun L hL => ?_
    simp -implicitDefEqProofs (disch := omega) only [i43_0, i43_1, i43_2, i43_3, i43_4, i43_5, i43_6, i43_7, i43_8, i43_K0, i43, i43_L0, f2, zS, State.step, State.pure, State.pure.capsOf, arrGo, State.ghosts, State.ghost, State.srcRows, State.arrRows, State.pure.fillC, State.bound, State.rd, takeC, args0, State.res, State.res1, State.resS, State.resL, normS, AC.pure, splice, ↓reduceIte, Nat.reduceEqDiff, Nat.reduceLT, Nat.reduceLeDiff, Nat.reduceAdd, Nat.reduceSub, Nat.reduceMul, Int.reduceLE, Int.reduceLT, Int.reduceToNat, Int.reduceEq, Int.reduceNe, Int.reduceAdd, Int.reduceMul, Int.reducePow, Int.reduceNeg, Nat.reduceBEq, Int.reduceBNe, Int.reduceBEq, reduceCtorEq, ne_eq, IntWalk.iteOmega]
    rw [hL]; exact hK _
  induction m with
  | zero =>
    intro i j h1 h4 hr
    exact done i j (by omega) hr
  | succ m ih =>
    intro i j h1 h4 hr
    by_cases hij : i < j
    · have hh : (i + j) / 2 < l.length := by omega
      have hget : (rowsK l)[(i + j) / 2]? = some (l[(i + j) / 2].enc) := by simp [rowsK, hh]
      have h26 := T26w l[(i + j) / 2] t
      have hL := ih ((i + j) / 2 + 1) j (by omega) h4
      have hR := ih i ((i + j) / 2) (by omega) (by omega)
      unfold bs at hr
      rw [if_pos hij, List.getElem?_eq_getElem hh] at hr
      simp only at hr
      generalize l[(i + j) / 2] = x at *
      have f1 : ((i : Int) + (j : Int)) / 2 = (((i + j) / 2 : Nat) : Int) := by omega
      have f2 : ((i : Int) < (j : Int)) = True := eq_true (by omega)
      have f3 : (i + j) / 2 ≤ 1000000 := by omega
      have f4 : i + j ≤ 2000000 := by omega
      generalize (i + j) / 2 = h at *
      clear ih done
      refine go_loop fun L hL2 => ?_
      simp -implicitDefEqProofs (disch := omega) only [i43_0, i43_1, i43_2, i43_3, i43_4, i43_5, i43_6, i43_7, i43_8, i43_K0, i43, i43_L0, f1, f2, hget, Kept.enc, zS, State.step, State.pure, State.pure.capsOf, arrGo, State.ghosts, State.ghost, State.srcRows, State.arrRows, State.pure.fillC, State.bound, State.rd, takeC, args0, State.res, State.res1, State.resS, State.resL, normS, AC.pure, splice, ↓reduceIte, Nat.reduceEqDiff, Nat.reduceLT, Nat.reduceLeDiff, Nat.reduceAdd, Nat.reduceSub, Nat.reduceMul, Int.reduceLE, Int.reduceLT, Int.reduceToNat, Int.reduceEq, Int.reduceNe, Int.reduceAdd, Int.reduceMul, Int.reducePow, Int.reduceNeg, Nat.reduceBEq, Int.reduceBNe, Int.reduceBEq, reduceCtorEq, ne_eq, IntWalk.iteOmega]
      refine call_pure h26 rfl rfl ?_
      simp -implicitDefEqProofs (disch := omega) only [zS, State.step, State.pure, State.pure.capsOf, arrGo, State.ghosts, State.ghost, State.srcRows, State.arrRows, State.pure.fillC, State.bound, State.rd, takeC, args0, State.res, State.res1, State.resS, State.resL, normS, AC.pure, splice, ↓reduceIte, Nat.reduceEqDiff, Nat.reduceLT, Nat.reduceLeDiff, Nat.reduceAdd, Nat.reduceSub, Nat.reduceMul, Int.reduceLE, Int.reduceLT, Int.reduceToNat, Int.reduceEq, Int.reduceNe, Int.reduceAdd, Int.reduceMul, Int.reducePow, Int.reduceNeg, Nat.reduceBEq, Int.reduceBNe, Int.reduceBEq, reduceCtorEq, ne_eq, IntWalk.iteOmega]
      refine gCond_d (fun c c' => ?_) (fun c c' => ?_)
      · simp -implicitDefEqProofs (disch := omega) only [i43_0, i43_1, i43_2, i43_3, i43_4, i43_5, i43_6, i43_7, i43_8, i43_K0, i43, zS, State.step, State.pure, State.pure.capsOf, arrGo, State.ghosts, State.ghost, State.srcRows, State.arrRows, State.pure.fillC, State.bound, State.rd, takeC, args0, State.res, State.res1, State.resS, State.resL, normS, AC.pure, splice, ↓reduceIte, Nat.reduceEqDiff, Nat.reduceLT, Nat.reduceLeDiff, Nat.reduceAdd, Nat.reduceSub, Nat.reduceMul, Int.reduceLE, Int.reduceLT, Int.reduceToNat, Int.reduceEq, Int.reduceNe, Int.reduceAdd, Int.reduceMul, Int.reducePow, Int.reduceNeg, Nat.reduceBEq, Int.reduceBNe, Int.reduceBEq, reduceCtorEq, ne_eq, IntWalk.iteOmega]
        rw [hL2]
        exact hL (by rw [if_pos c] at hr; exact hr)
      · simp -implicitDefEqProofs (disch := omega) only [i43_0, i43_1, i43_2, i43_3, i43_4, i43_5, i43_6, i43_7, i43_8, i43_K0, i43, zS, State.step, State.pure, State.pure.capsOf, arrGo, State.ghosts, State.ghost, State.srcRows, State.arrRows, State.pure.fillC, State.bound, State.rd, takeC, args0, State.res, State.res1, State.resS, State.resL, normS, AC.pure, splice, ↓reduceIte, Nat.reduceEqDiff, Nat.reduceLT, Nat.reduceLeDiff, Nat.reduceAdd, Nat.reduceSub, Nat.reduceMul, Int.reduceLE, Int.reduceLT, Int.reduceToNat, Int.reduceEq, Int.reduceNe, Int.reduceAdd, Int.reduceMul, Int.reducePow, Int.reduceNeg, Nat.reduceBEq, Int.reduceBNe, Int.reduceBEq, reduceCtorEq, ne_eq, IntWalk.iteOmega]
        rw [hL2]
        exact hR (by rw [if_neg c] at hr; exact hr)
    · exact done i j hij (by unfold bs at hr; rw [if_neg hij] at hr; exact hr)
theorem T43 (l : List Kept) (t : Kept) (hl : l.length ≤ 1000000) :
    RunsTo Try.prog 43 [.c (.list 0 7 (rowsK l)), .agg t.enc, .c (.fn 26 [])] [] (.tup [.c (.int .i64 (found l t)), .c (.bool (foundB l t))]) [] := by
  have hp : found l t ≤ l.length := bs_le l t _ _ _ (by omega)
  have hL := fun K hK => L43 l t hl K (found l t) hK l.length 0 l.length (by omega) (Nat.le_refl _) rfl
  refine R43 (by simp) ?_
  generalize hFin : FinQ rs43 [] _ = F
  simp -implicitDefEqProofs (disch := omega) only [i43_0, i43_1, i43_2, i43_3, i43_4, i43_5, i43_6, i43_7, i43_8, i43, rowsK_len, zS, State.step, State.pure, State.pure.capsOf, arrGo, State.ghosts, State.ghost, State.srcRows, State.arrRows, State.pure.fillC, State.bound, State.rd, takeC, args0, State.res, State.res1, State.resS, State.resL, normS, AC.pure, splice, ↓reduceIte, Nat.reduceEqDiff, Nat.reduceLT, Nat.reduceLeDiff, Nat.reduceAdd, Nat.reduceSub, Nat.reduceMul, Int.reduceLE, Int.reduceLT, Int.reduceToNat, Int.reduceEq, Int.reduceNe, Int.reduceAdd, Int.reduceMul, Int.reducePow, Int.reduceNeg, Nat.reduceBEq, Int.reduceBNe, Int.reduceBEq, reduceCtorEq, ne_eq, IntWalk.iteOmega]
  refine hL _ fun j => ?_
  clear hL
  by_cases hlt : found l t < l.length
  · have hget : (rowsK l)[found l t]? = some (l[found l t].enc) := by simp [rowsK, hlt]
    have h26 := T26w l[found l t] t
    have he : foundB l t = decide (cmpW l[found l t] t = 0) := by simp only [foundB, List.getElem?_eq_getElem hlt]
    generalize l[found l t] = x at *
    have f1 : ((found l t : Int) < l.length) = True := eq_true (by omega)
    simp -implicitDefEqProofs (disch := omega) only [i43_0, i43_1, i43_2, i43_3, i43_4, i43_5, i43_6, i43_7, i43_8, i43_K0, i43, f1, hget, Kept.enc, zS, State.step, State.pure, State.pure.capsOf, arrGo, State.ghosts, State.ghost, State.srcRows, State.arrRows, State.pure.fillC, State.bound, State.rd, takeC, args0, State.res, State.res1, State.resS, State.resL, normS, AC.pure, splice, ↓reduceIte, Nat.reduceEqDiff, Nat.reduceLT, Nat.reduceLeDiff, Nat.reduceAdd, Nat.reduceSub, Nat.reduceMul, Int.reduceLE, Int.reduceLT, Int.reduceToNat, Int.reduceEq, Int.reduceNe, Int.reduceAdd, Int.reduceMul, Int.reducePow, Int.reduceNeg, Nat.reduceBEq, Int.reduceBNe, Int.reduceBEq, reduceCtorEq, ne_eq, IntWalk.iteOmega]
    refine call_pure h26 rfl rfl ?_
    simp -implicitDefEqProofs (disch := omega) only [zS, State.step, State.pure, State.pure.capsOf, arrGo, State.ghosts, State.ghost, State.srcRows, State.arrRows, State.pure.fillC, State.bound, State.rd, takeC, args0, State.res, State.res1, State.resS, State.resL, normS, AC.pure, splice, ↓reduceIte, Nat.reduceEqDiff, Nat.reduceLT, Nat.reduceLeDiff, Nat.reduceAdd, Nat.reduceSub, Nat.reduceMul, Int.reduceLE, Int.reduceLT, Int.reduceToNat, Int.reduceEq, Int.reduceNe, Int.reduceAdd, Int.reduceMul, Int.reducePow, Int.reduceNeg, Nat.reduceBEq, Int.reduceBNe, Int.reduceBEq, reduceCtorEq, ne_eq, IntWalk.iteOmega]
    subst hFin
    (refine fin_pure rfl ?_ not_x_r; simp only [rs43, zS, State.step, State.pure, State.pure.capsOf, arrGo, State.ghosts, State.ghost, State.srcRows, State.arrRows, State.pure.fillC, State.bound, State.rd, takeC, args0, State.res, State.res1, State.resS, State.resL, normS, AC.pure, splice, ↓reduceIte, Nat.reduceEqDiff, Nat.reduceLT, Nat.reduceLeDiff, Nat.reduceAdd, Nat.reduceSub, Nat.reduceMul, Int.reduceLE, Int.reduceLT, Int.reduceToNat, Int.reduceEq, Int.reduceNe, Int.reduceAdd, Int.reduceMul, Int.reducePow, Int.reduceNeg, Nat.reduceBEq, Int.reduceBNe, Int.reduceBEq, reduceCtorEq, ne_eq, IntWalk.iteOmega])
    rw [he]
  · have he : foundB l t = false := by simp only [foundB, List.getElem?_eq_none (Nat.le_of_not_lt hlt)]
    have f1 : ((found l t : Int) < l.length) = False := eq_false (by omega)
    simp -implicitDefEqProofs (disch := omega) only [i43_0, i43_1, i43_2, i43_3, i43_4, i43_5, i43_6, i43_7, i43_8, i43_K0, i43, f1, Kept.enc, zS, State.step, State.pure, State.pure.capsOf, arrGo, State.ghosts, State.ghost, State.srcRows, State.arrRows, State.pure.fillC, State.bound, State.rd, takeC, args0, State.res, State.res1, State.resS, State.resL, normS, AC.pure, splice, ↓reduceIte, Nat.reduceEqDiff, Nat.reduceLT, Nat.reduceLeDiff, Nat.reduceAdd, Nat.reduceSub, Nat.reduceMul, Int.reduceLE, Int.reduceLT, Int.reduceToNat, Int.reduceEq, Int.reduceNe, Int.reduceAdd, Int.reduceMul, Int.reducePow, Int.reduceNeg, Nat.reduceBEq, Int.reduceBNe, Int.reduceBEq, reduceCtorEq, ne_eq, IntWalk.iteOmega]
    subst hFin
    (refine fin_pure rfl ?_ not_x_r; simp only [rs43, zS, State.step, State.pure, State.pure.capsOf, arrGo, State.ghosts, State.ghost, State.srcRows, State.arrRows, State.pure.fillC, State.bound, State.rd, takeC, args0, State.res, State.res1, State.resS, State.resL, normS, AC.pure, splice, ↓reduceIte, Nat.reduceEqDiff, Nat.reduceLT, Nat.reduceLeDiff, Nat.reduceAdd, Nat.reduceSub, Nat.reduceMul, Int.reduceLE, Int.reduceLT, Int.reduceToNat, Int.reduceEq, Int.reduceNe, Int.reduceAdd, Int.reduceMul, Int.reducePow, Int.reduceNeg, Nat.reduceBEq, Int.reduceBNe, Int.reduceBEq, reduceCtorEq, ne_eq, IntWalk.iteOmega])
    rw [he]
theorem foundB_there {l : List Kept} {t : Kept} (hl : ∀ k ∈ l, k.Ok) (htok : t.Ok) (hm : ∀ k ∈ l, Small k) (hs : l.Pairwise Before) : foundB l t = there l t ∧ (there l t = true → found l t = pos l t) := by
  by_cases ht : Small t
  · have e : found l t = pos l t := bs_pos (fun k hk => (hm k hk).mid) ht.mid hs _ _ _ (by omega) (by omega) (pos_le l t) (Nat.le_refl _)
    refine ⟨?_, fun _ => e⟩
    rw [Bool.eq_iff_iff, there_iff hs, foundB, e]
    cases h : l[pos l t]? with
    | none => simp
    | some x => simp [cmpW_eq (hl x (List.mem_of_getElem? h)) htok]
  · have e : there l t = false := by
      apply decide_eq_false
      rintro ⟨k, hk, hsame⟩
      have := hm k hk
      apply ht
      unfold Small at *; unfold SameKey at hsame; omega
    refine ⟨?_, fun h => by rw [e] at h; cases h⟩
    rw [e, foundB]
    cases h : l[found l t]? with
    | none => rfl
    | some x =>
      have hx := List.mem_of_getElem? h
      simp only [decide_eq_false_iff_not, cmpW_eq (hl x hx) htok]
      intro hsame
      have := hm x hx
      apply ht
      unfold Small at *; unfold SameKey at hsame; omega
theorem found_pos {l : List Kept} {t : Kept} (ht : Small t) (hm : ∀ k ∈ l, Small k) (hs : l.Pairwise Before) : found l t = pos l t :=
  bs_pos (fun k hk => (hm k hk).mid) ht.mid hs _ _ _ (by omega) (by omega) (pos_le l t) (Nat.le_refl _)
/-- The item that a chunk is looked for by. -/
def keyOf (o c : Int) : Kept := ⟨o, c, 0, ⟨#[]⟩, 0, 0, 0⟩
theorem T36 (c : Cache) (o ch : Int) (hc : c.Ok) : RunsTo Try.prog 36 [.agg c.enc, .c (.int .i64 o), .c (.int .i64 ch)] [] (.tup [.c (.int .i64 (found c.items (keyOf o ch))), .c (.bool (foundB c.items (keyOf o ch)))]) [] := by
  have h43 := T43 c.items (keyOf o ch) hc.few
  clear hc
  refine R36 (by simp) ?_
  simp -implicitDefEqProofs (disch := omega) only [i36_0, i36_1, i36, Cache.enc, zS, State.step, State.pure, State.pure.capsOf, arrGo, State.ghosts, State.ghost, State.srcRows, State.arrRows, State.pure.fillC, State.bound, State.rd, takeC, args0, State.res, State.res1, State.resS, State.resL, normS, AC.pure, splice, ↓reduceIte, Nat.reduceEqDiff, Nat.reduceLT, Nat.reduceLeDiff, Nat.reduceAdd, Nat.reduceSub, Nat.reduceMul, Int.reduceLE, Int.reduceLT, Int.reduceToNat, Int.reduceEq, Int.reduceNe, Int.reduceAdd, Int.reduceMul, Int.reducePow, Int.reduceNeg, Nat.reduceBEq, Int.reduceBNe, Int.reduceBEq, reduceCtorEq, ne_eq, IntWalk.iteOmega]
  refine call_pure h43 rfl rfl ?_
  simp -implicitDefEqProofs (disch := omega) only [zS, State.step, State.pure, State.pure.capsOf, arrGo, State.ghosts, State.ghost, State.srcRows, State.arrRows, State.pure.fillC, State.bound, State.rd, takeC, args0, State.res, State.res1, State.resS, State.resL, normS, AC.pure, splice, ↓reduceIte, Nat.reduceEqDiff, Nat.reduceLT, Nat.reduceLeDiff, Nat.reduceAdd, Nat.reduceSub, Nat.reduceMul, Int.reduceLE, Int.reduceLT, Int.reduceToNat, Int.reduceEq, Int.reduceNe, Int.reduceAdd, Int.reduceMul, Int.reducePow, Int.reduceNeg, Nat.reduceBEq, Int.reduceBNe, Int.reduceBEq, reduceCtorEq, ne_eq, IntWalk.iteOmega]
  (refine fin_pure rfl ?_ not_x_r; simp only [rs36, zS, State.step, State.pure, State.pure.capsOf, arrGo, State.ghosts, State.ghost, State.srcRows, State.arrRows, State.pure.fillC, State.bound, State.rd, takeC, args0, State.res, State.res1, State.resS, State.resL, normS, AC.pure, splice, ↓reduceIte, Nat.reduceEqDiff, Nat.reduceLT, Nat.reduceLeDiff, Nat.reduceAdd, Nat.reduceSub, Nat.reduceMul, Int.reduceLE, Int.reduceLT, Int.reduceToNat, Int.reduceEq, Int.reduceNe, Int.reduceAdd, Int.reduceMul, Int.reducePow, Int.reduceNeg, Nat.reduceBEq, Int.reduceBNe, Int.reduceBEq, reduceCtorEq, ne_eq, IntWalk.iteOmega])
end Go.Proofs.Ytimapebigcmbmaa

set_option linter.unusedVariables false
set_option linter.unusedSimpArgs false
namespace Go.Proofs.Ytimapebigcmbmaa
open Go Go.AI Go.Proofs

def Ext (H Y : List Blk) : Prop := ∀ (id : Nat) (b : Blk), H[id]? = some b → Y[id]? = some b
theorem Ext.app (H X : List Blk) : Ext H (H ++ X) := fun id b h => by rw [List.getElem?_append_left (List.getElem?_eq_some_iff.1 h).1]; exact h
theorem Ext.app2 (H X Y : List Blk) : Ext H (H ++ X ++ Y) := by rw [List.append_assoc]; exact Ext.app _ _
theorem T10 (room : Int) (hr : I64 room) : RunsTo Try.prog 10 [.c (.int .i64 room)] [] (.tup [.agg (if room < 0 ∨ 1048576 < room then (⟨0, 0, []⟩ : Cache) else ⟨room, 0, []⟩).enc, .c (.int .i64 (if room < 0 ∨ 1048576 < room then 3 else 0))]) [] := by
  refine R10 (by simp) ?_
  simp -implicitDefEqProofs (disch := omega) only [i10_0, i10_1, i10_2, i10_3, i10, zS, State.step, State.pure, State.pure.capsOf, arrGo, State.ghosts, State.ghost, State.srcRows, State.arrRows, State.pure.fillC, State.bound, State.rd, takeC, args0, State.res, State.res1, State.resS, State.resL, normS, AC.pure, splice, ↓reduceIte, Nat.reduceEqDiff, Nat.reduceLT, Nat.reduceLeDiff, Nat.reduceAdd, Nat.reduceSub, Nat.reduceMul, Int.reduceLE, Int.reduceLT, Int.reduceToNat, Int.reduceEq, Int.reduceNe, Int.reduceAdd, Int.reduceMul, Int.reducePow, Int.reduceNeg, Nat.reduceBEq, Int.reduceBNe, Int.reduceBEq, reduceCtorEq, ne_eq, IntWalk.iteOmega]
  repeat' (first | ((with_reducible first | refine gIf_dT (fun h h' => ?_) (fun h h' => ?_) | refine gIf_dF (fun h h' => ?_) (fun h h' => ?_) | refine gCond_d (fun h h' => ?_) (fun h h' => ?_) | refine gIf_bT (fun h h' => ?_) (fun h h' => ?_) | refine gIf_bF (fun h h' => ?_) (fun h h' => ?_) | refine gCond_b (fun h h' => ?_) (fun h h' => ?_)) <;> (simp -implicitDefEqProofs (disch := omega) only [h', zS, State.step, State.pure, State.pure.capsOf, arrGo, State.ghosts, State.ghost, State.srcRows, State.arrRows, State.pure.fillC, State.bound, State.rd, takeC, args0, State.res, State.res1, State.resS, State.resL, normS, AC.pure, splice, ↓reduceIte, Nat.reduceEqDiff, Nat.reduceLT, Nat.reduceLeDiff, Nat.reduceAdd, Nat.reduceSub, Nat.reduceMul, Int.reduceLE, Int.reduceLT, Int.reduceToNat, Int.reduceEq, Int.reduceNe, Int.reduceAdd, Int.reduceMul, Int.reducePow, Int.reduceNeg, Nat.reduceBEq, Int.reduceBNe, Int.reduceBEq, reduceCtorEq, ne_eq, IntWalk.iteOmega] <;> clear h')))
  · have c : room < 0 ∨ 1048576 < room := by omega
    (refine fin_pure rfl ?_ not_x_r; simp only [rs10, c, zS, State.step, State.pure, State.pure.capsOf, arrGo, State.ghosts, State.ghost, State.srcRows, State.arrRows, State.pure.fillC, State.bound, State.rd, takeC, args0, State.res, State.res1, State.resS, State.resL, normS, AC.pure, splice, ↓reduceIte, Nat.reduceEqDiff, Nat.reduceLT, Nat.reduceLeDiff, Nat.reduceAdd, Nat.reduceSub, Nat.reduceMul, Int.reduceLE, Int.reduceLT, Int.reduceToNat, Int.reduceEq, Int.reduceNe, Int.reduceAdd, Int.reduceMul, Int.reducePow, Int.reduceNeg, Nat.reduceBEq, Int.reduceBNe, Int.reduceBEq, reduceCtorEq, ne_eq, IntWalk.iteOmega])
    rfl
  · have c : room < 0 ∨ 1048576 < room := by omega
    (refine fin_pure rfl ?_ not_x_r; simp only [rs10, c, zS, State.step, State.pure, State.pure.capsOf, arrGo, State.ghosts, State.ghost, State.srcRows, State.arrRows, State.pure.fillC, State.bound, State.rd, takeC, args0, State.res, State.res1, State.resS, State.resL, normS, AC.pure, splice, ↓reduceIte, Nat.reduceEqDiff, Nat.reduceLT, Nat.reduceLeDiff, Nat.reduceAdd, Nat.reduceSub, Nat.reduceMul, Int.reduceLE, Int.reduceLT, Int.reduceToNat, Int.reduceEq, Int.reduceNe, Int.reduceAdd, Int.reduceMul, Int.reducePow, Int.reduceNeg, Nat.reduceBEq, Int.reduceBNe, Int.reduceBEq, reduceCtorEq, ne_eq, IntWalk.iteOmega])
    rfl
  · have c : ¬ (room < 0 ∨ 1048576 < room) := by omega
    (refine fin_pure rfl ?_ not_x_r; simp only [rs10, c, zS, State.step, State.pure, State.pure.capsOf, arrGo, State.ghosts, State.ghost, State.srcRows, State.arrRows, State.pure.fillC, State.bound, State.rd, takeC, args0, State.res, State.res1, State.resS, State.resL, normS, AC.pure, splice, ↓reduceIte, Nat.reduceEqDiff, Nat.reduceLT, Nat.reduceLeDiff, Nat.reduceAdd, Nat.reduceSub, Nat.reduceMul, Int.reduceLE, Int.reduceLT, Int.reduceToNat, Int.reduceEq, Int.reduceNe, Int.reduceAdd, Int.reduceMul, Int.reducePow, Int.reduceNeg, Nat.reduceBEq, Int.reduceBNe, Int.reduceBEq, reduceCtorEq, ne_eq, IntWalk.iteOmega])
    rfl
def refNew (room : Int) : Made := if room < 0 ∨ 1048576 < room then ⟨⟨0, 0, []⟩, [], ⟨#[]⟩, 0, 3⟩ else ⟨⟨room, 0, []⟩, [], ⟨#[]⟩, 0, 0⟩
theorem T11 (room : Int) (hr : I64 room) : RunsTo Try.prog 11 [.c (.int .i64 room)] [] (.agg (refNew room).enc) [] := by
  refine nrm (Q11 (by simp) ?_)
  simp -implicitDefEqProofs (disch := omega) only [i11_0, i11_1, i11_2, i11_3, i11, zS, State.step, State.pure, State.pure.capsOf, arrGo, State.ghosts, State.ghost, State.srcRows, State.arrRows, State.pure.fillC, State.bound, State.rd, takeC, args0, State.res, State.res1, State.resS, State.resL, normS, AC.pure, splice, ↓reduceIte, Nat.reduceEqDiff, Nat.reduceLT, Nat.reduceLeDiff, Nat.reduceAdd, Nat.reduceSub, Nat.reduceMul, Int.reduceLE, Int.reduceLT, Int.reduceToNat, Int.reduceEq, Int.reduceNe, Int.reduceAdd, Int.reduceMul, Int.reducePow, Int.reduceNeg, Nat.reduceBEq, Int.reduceBNe, Int.reduceBEq, reduceCtorEq, ne_eq, IntWalk.iteOmega]
  repeat' (first | ((with_reducible first | refine gIf_dT (fun h h' => ?_) (fun h h' => ?_) | refine gIf_dF (fun h h' => ?_) (fun h h' => ?_) | refine gCond_d (fun h h' => ?_) (fun h h' => ?_) | refine gIf_bT (fun h h' => ?_) (fun h h' => ?_) | refine gIf_bF (fun h h' => ?_) (fun h h' => ?_) | refine gCond_b (fun h h' => ?_) (fun h h' => ?_)) <;> (simp -implicitDefEqProofs (disch := omega) only [h', zS, State.step, State.pure, State.pure.capsOf, arrGo, State.ghosts, State.ghost, State.srcRows, State.arrRows, State.pure.fillC, State.bound, State.rd, takeC, args0, State.res, State.res1, State.resS, State.resL, normS, AC.pure, splice, ↓reduceIte, Nat.reduceEqDiff, Nat.reduceLT, Nat.reduceLeDiff, Nat.reduceAdd, Nat.reduceSub, Nat.reduceMul, Int.reduceLE, Int.reduceLT, Int.reduceToNat, Int.reduceEq, Int.reduceNe, Int.reduceAdd, Int.reduceMul, Int.reducePow, Int.reduceNeg, Nat.reduceBEq, Int.reduceBNe, Int.reduceBEq, reduceCtorEq, ne_eq, IntWalk.iteOmega] <;> clear h')))
  · have c : room < 0 ∨ 1048576 < room := by omega
    (refine fin_pureN ?_ not_x_r; simp only [rs11, zS, State.step, State.pure, State.pure.capsOf, arrGo, State.ghosts, State.ghost, State.srcRows, State.arrRows, State.pure.fillC, State.bound, State.rd, takeC, args0, State.res, State.res1, State.resS, State.resL, normS, AC.pure, splice, ↓reduceIte, Nat.reduceEqDiff, Nat.reduceLT, Nat.reduceLeDiff, Nat.reduceAdd, Nat.reduceSub, Nat.reduceMul, Int.reduceLE, Int.reduceLT, Int.reduceToNat, Int.reduceEq, Int.reduceNe, Int.reduceAdd, Int.reduceMul, Int.reducePow, Int.reduceNeg, Nat.reduceBEq, Int.reduceBNe, Int.reduceBEq, reduceCtorEq, ne_eq, IntWalk.iteOmega]; refine ⟨_, rfl, rfl, ?_⟩)
    rw [refNew, if_pos c]; rfl
  · have c : room < 0 ∨ 1048576 < room := by omega
    (refine fin_pureN ?_ not_x_r; simp only [rs11, zS, State.step, State.pure, State.pure.capsOf, arrGo, State.ghosts, State.ghost, State.srcRows, State.arrRows, State.pure.fillC, State.bound, State.rd, takeC, args0, State.res, State.res1, State.resS, State.resL, normS, AC.pure, splice, ↓reduceIte, Nat.reduceEqDiff, Nat.reduceLT, Nat.reduceLeDiff, Nat.reduceAdd, Nat.reduceSub, Nat.reduceMul, Int.reduceLE, Int.reduceLT, Int.reduceToNat, Int.reduceEq, Int.reduceNe, Int.reduceAdd, Int.reduceMul, Int.reducePow, Int.reduceNeg, Nat.reduceBEq, Int.reduceBNe, Int.reduceBEq, reduceCtorEq, ne_eq, IntWalk.iteOmega]; refine ⟨_, rfl, rfl, ?_⟩)
    rw [refNew, if_pos c]; rfl
  · have c : ¬ (room < 0 ∨ 1048576 < room) := by omega
    (refine fin_pureN ?_ not_x_r; simp only [rs11, zS, State.step, State.pure, State.pure.capsOf, arrGo, State.ghosts, State.ghost, State.srcRows, State.arrRows, State.pure.fillC, State.bound, State.rd, takeC, args0, State.res, State.res1, State.resS, State.resL, normS, AC.pure, splice, ↓reduceIte, Nat.reduceEqDiff, Nat.reduceLT, Nat.reduceLeDiff, Nat.reduceAdd, Nat.reduceSub, Nat.reduceMul, Int.reduceLE, Int.reduceLT, Int.reduceToNat, Int.reduceEq, Int.reduceNe, Int.reduceAdd, Int.reduceMul, Int.reducePow, Int.reduceNeg, Nat.reduceBEq, Int.reduceBNe, Int.reduceBEq, reduceCtorEq, ne_eq, IntWalk.iteOmega]; refine ⟨_, rfl, rfl, ?_⟩)
    rw [refNew, if_neg c]; rfl
theorem T21 (o c : Int) (b : ByteArray) (s l : Int) : RunsTo Try.prog 21 [.c (.int .i64 o), .c (.int .i64 c), .c (.str b), .c (.int .i64 s), .c (.int .i64 l)] [] (.agg (Kept.enc ⟨o, c, 1, b, s, l, 0⟩)) [] := by
  refine R21 (by simp) ?_
  simp -implicitDefEqProofs (disch := omega) only [i21_0, i21_1, i21, zS, State.step, State.pure, State.pure.capsOf, arrGo, State.ghosts, State.ghost, State.srcRows, State.arrRows, State.pure.fillC, State.bound, State.rd, takeC, args0, State.res, State.res1, State.resS, State.resL, normS, AC.pure, splice, ↓reduceIte, Nat.reduceEqDiff, Nat.reduceLT, Nat.reduceLeDiff, Nat.reduceAdd, Nat.reduceSub, Nat.reduceMul, Int.reduceLE, Int.reduceLT, Int.reduceToNat, Int.reduceEq, Int.reduceNe, Int.reduceAdd, Int.reduceMul, Int.reducePow, Int.reduceNeg, Nat.reduceBEq, Int.reduceBNe, Int.reduceBEq, reduceCtorEq, ne_eq, IntWalk.iteOmega]
  (refine fin_pure rfl ?_ not_x_r; simp only [rs21, zS, State.step, State.pure, State.pure.capsOf, arrGo, State.ghosts, State.ghost, State.srcRows, State.arrRows, State.pure.fillC, State.bound, State.rd, takeC, args0, State.res, State.res1, State.resS, State.resL, normS, AC.pure, splice, ↓reduceIte, Nat.reduceEqDiff, Nat.reduceLT, Nat.reduceLeDiff, Nat.reduceAdd, Nat.reduceSub, Nat.reduceMul, Int.reduceLE, Int.reduceLT, Int.reduceToNat, Int.reduceEq, Int.reduceNe, Int.reduceAdd, Int.reduceMul, Int.reducePow, Int.reduceNeg, Nat.reduceBEq, Int.reduceBNe, Int.reduceBEq, reduceCtorEq, ne_eq, IntWalk.iteOmega])
  rfl
/-! ### keep -/
theorem rowsK_snoc (l : List Kept) (x : Kept) : rowsK l ++ [x.enc] = rowsK (l ++ [x]) := by simp [rowsK]
theorem L39 (all : List Kept) (hn : all.length ≤ 1000000) (H : List Blk) (f id : Nat) (p : Kept → Bool) (hf : ∀ x ∈ all, ∀ Y, Ext H Y → RunsTo Try.prog f [.agg x.enc, .c (.ptr (some (id, 0)))] Y (.c (.bool (p x))) Y) (K : AX → State → Prop)
    (hK : ∀ X j lv, lv = 1 ∨ lv = 2 → K (.x 0) ⟨[(1, .c (.fn f [.ptr (some (id, 0))])), (5, .c (.list lv 7 (rowsK (all.filter p)))), (8, .c (.list 0 7 (rowsK all))), (9, .c (.int .i64 all.length)), (10, .c (.int .i64 j)), (11, .c (.bool false))], H ++ X⟩) :
    ∀ (post pre : List Kept) (lv : Nat), pre ++ post = all → lv = 1 ∨ lv = 2 → ∀ X, (IR.loop [] i39_L0).go Try.prog ⟨[(1, .c (.fn f [.ptr (some (id, 0))])), (5, .c (.list lv 7 (rowsK (pre.filter p)))), (8, .c (.list 0 7 (rowsK all))), (9, .c (.int .i64 all.length)), (10, .c (.int .i64 pre.length))], H ++ X⟩ K := by
  intro post
  induction post with
  | nil =>
    intro pre lv hp hlv X
    obtain rfl : pre = all := by simpa using hp
    refine go_loop fun L hL => ?_
    rcases hlv with rfl | rfl <;>
    · simp -implicitDefEqProofs (disch := omega) only [i39_0, i39_1, i39_2, i39_3, i39_4, i39_5, i39_6, i39_7, i39_8, i39_K0, i39, i39_L0, zS, State.step, State.pure, State.pure.capsOf, arrGo, State.ghosts, State.ghost, State.srcRows, State.arrRows, State.pure.fillC, State.bound, State.rd, takeC, args0, State.res, State.res1, State.resS, State.resL, normS, AC.pure, splice, ↓reduceIte, Nat.reduceEqDiff, Nat.reduceLT, Nat.reduceLeDiff, Nat.reduceAdd, Nat.reduceSub, Nat.reduceMul, Int.reduceLE, Int.reduceLT, Int.reduceToNat, Int.reduceEq, Int.reduceNe, Int.reduceAdd, Int.reduceMul, Int.reducePow, Int.reduceNeg, Nat.reduceBEq, Int.reduceBNe, Int.reduceBEq, reduceCtorEq, ne_eq, IntWalk.iteOmega]
      rw [hL]; exact hK _ _ _ (by simp)
  | cons x post ih =>
    intro pre lv hp hlv X
    have hget := row_at hp
    have hlt : (pre.length : Int) < all.length := by rw [← hp]; simp; omega
    have hx : x ∈ all := by rw [← hp]; simp
    have hcall := hf x hx (H ++ X ++ [.cells x.enc]) (Ext.app2 _ _ _)
    have hlen : (rowsK (pre.filter p)).length ≤ 1000000 := by
      rw [rowsK_len]; have := List.length_filter_le p pre; have : pre.length ≤ all.length := by rw [← hp]; simp
      omega
    have hT : p x = true → ∀ X, _ := fun e X => ih (pre ++ [x]) 2 (by rw [← hp]; simp) (.inr rfl) X
    have hFf : p x = false → ∀ lv, lv = 1 ∨ lv = 2 → ∀ X, _ := fun e lv hlv X => ih (pre ++ [x]) lv (by rw [← hp]; simp) hlv X
    simp only [List.length_append, List.length_cons, List.length_nil, List.filter_append] at hT hFf
    refine go_loop fun L hL => ?_
    clear ih hf
    rcases hlv with rfl | rfl <;>
    · simp -implicitDefEqProofs (disch := omega) only [i39_0, i39_1, i39_2, i39_3, i39_4, i39_5, i39_6, i39_7, i39_8, i39_K0, i39, i39_L0, hlt, hget, Kept.enc, zS, State.step, State.pure, State.pure.capsOf, arrGo, State.ghosts, State.ghost, State.srcRows, State.arrRows, State.pure.fillC, State.bound, State.rd, takeC, args0, State.res, State.res1, State.resS, State.resL, normS, AC.pure, splice, ↓reduceIte, Nat.reduceEqDiff, Nat.reduceLT, Nat.reduceLeDiff, Nat.reduceAdd, Nat.reduceSub, Nat.reduceMul, Int.reduceLE, Int.reduceLT, Int.reduceToNat, Int.reduceEq, Int.reduceNe, Int.reduceAdd, Int.reduceMul, Int.reducePow, Int.reduceNeg, Nat.reduceBEq, Int.reduceBNe, Int.reduceBEq, reduceCtorEq, ne_eq, IntWalk.iteOmega]
      refine call_same (by decide) hcall ?_
      simp -implicitDefEqProofs (disch := omega) only [i39_0, i39_1, i39_2, i39_3, i39_4, i39_5, i39_6, i39_7, i39_8, i39_K0, i39, Kept.enc, zS, State.step, State.pure, State.pure.capsOf, arrGo, State.ghosts, State.ghost, State.srcRows, State.arrRows, State.pure.fillC, State.bound, State.rd, takeC, args0, State.res, State.res1, State.resS, State.resL, normS, AC.pure, splice, ↓reduceIte, Nat.reduceEqDiff, Nat.reduceLT, Nat.reduceLeDiff, Nat.reduceAdd, Nat.reduceSub, Nat.reduceMul, Int.reduceLE, Int.reduceLT, Int.reduceToNat, Int.reduceEq, Int.reduceNe, Int.reduceAdd, Int.reduceMul, Int.reducePow, Int.reduceNeg, Nat.reduceBEq, Int.reduceBNe, Int.reduceBEq, reduceCtorEq, ne_eq, IntWalk.iteOmega]
      refine gCond_split (fun c => ?_) (fun c => ?_)
      · simp -implicitDefEqProofs (disch := omega) only [i39_0, i39_1, i39_2, i39_3, i39_4, i39_5, i39_6, i39_7, i39_8, i39_K0, i39, Kept.enc, zS, State.step, State.pure, State.pure.capsOf, arrGo, State.ghosts, State.ghost, State.srcRows, State.arrRows, State.pure.fillC, State.bound, State.rd, takeC, args0, State.res, State.res1, State.resS, State.resL, normS, AC.pure, splice, ↓reduceIte, Nat.reduceEqDiff, Nat.reduceLT, Nat.reduceLeDiff, Nat.reduceAdd, Nat.reduceSub, Nat.reduceMul, Int.reduceLE, Int.reduceLT, Int.reduceToNat, Int.reduceEq, Int.reduceNe, Int.reduceAdd, Int.reduceMul, Int.reducePow, Int.reduceNeg, Nat.reduceBEq, Int.reduceBNe, Int.reduceBEq, reduceCtorEq, ne_eq, IntWalk.iteOmega]
        rw [hL]
        have := hT c (X ++ [.cells x.enc])
        simp only [List.filter_cons, c, if_true, List.filter_nil, ← rowsK_snoc] at this
        rw [← List.append_assoc] at this
        exact this
      · simp -implicitDefEqProofs (disch := omega) only [i39_0, i39_1, i39_2, i39_3, i39_4, i39_5, i39_6, i39_7, i39_8, i39_K0, i39, Kept.enc, zS, State.step, State.pure, State.pure.capsOf, arrGo, State.ghosts, State.ghost, State.srcRows, State.arrRows, State.pure.fillC, State.bound, State.rd, takeC, args0, State.res, State.res1, State.resS, State.resL, normS, AC.pure, splice, ↓reduceIte, Nat.reduceEqDiff, Nat.reduceLT, Nat.reduceLeDiff, Nat.reduceAdd, Nat.reduceSub, Nat.reduceMul, Int.reduceLE, Int.reduceLT, Int.reduceToNat, Int.reduceEq, Int.reduceNe, Int.reduceAdd, Int.reduceMul, Int.reducePow, Int.reduceNeg, Nat.reduceBEq, Int.reduceBNe, Int.reduceBEq, reduceCtorEq, ne_eq, IntWalk.iteOmega]
        rw [hL]
        have h1 := hFf c 1 (.inl rfl) (X ++ [.cells x.enc])
        have h2 := hFf c 2 (.inr rfl) (X ++ [.cells x.enc])
        simp only [List.filter_cons, c, List.filter_nil, List.append_nil, Bool.false_eq_true, if_false] at h1 h2
        rw [← List.append_assoc] at h1 h2
        first | exact h1 | exact h2
theorem T39 (l : List Kept) (hn : l.length ≤ 1000000) (H : List Blk) (f id : Nat) (p : Kept → Bool) (hf : ∀ x ∈ l, ∀ Y, Ext H Y → RunsTo Try.prog f [.agg x.enc, .c (.ptr (some (id, 0)))] Y (.c (.bool (p x))) Y) :
    RunsTo Try.prog 39 [.c (.list 0 7 (rowsK l)), .c (.fn f [.ptr (some (id, 0))])] H (.c (.list 2 7 (rowsK (l.filter p)))) H := by
  refine R39 (by simp) ?_
  simp -implicitDefEqProofs (disch := omega) only [i39_0, i39_1, i39_2, i39_3, i39_4, i39_5, i39_6, i39_7, i39_8, i39, rowsK_len, zS, State.step, State.pure, State.pure.capsOf, arrGo, State.ghosts, State.ghost, State.srcRows, State.arrRows, State.pure.fillC, State.bound, State.rd, takeC, args0, State.res, State.res1, State.resS, State.resL, normS, AC.pure, splice, ↓reduceIte, Nat.reduceEqDiff, Nat.reduceLT, Nat.reduceLeDiff, Nat.reduceAdd, Nat.reduceSub, Nat.reduceMul, Int.reduceLE, Int.reduceLT, Int.reduceToNat, Int.reduceEq, Int.reduceNe, Int.reduceAdd, Int.reduceMul, Int.reducePow, Int.reduceNeg, Nat.reduceBEq, Int.reduceBNe, Int.reduceBEq, reduceCtorEq, ne_eq, IntWalk.iteOmega]
  have h0 : H = H ++ [] := by simp
  have := L39 l hn H f id p hf (blkK 0 (seqK Try.prog i39_K0 (FinQ rs39 H fun u G => u = .c (.list 2 7 (rowsK (l.filter p))) ∧ G = H))) (fun X j lv hlv => by
    rcases hlv with rfl | rfl <;>
    · simp -implicitDefEqProofs (disch := omega) only [i39_0, i39_1, i39_2, i39_3, i39_4, i39_5, i39_6, i39_7, i39_8, i39_K0, i39, zS, State.step, State.pure, State.pure.capsOf, arrGo, State.ghosts, State.ghost, State.srcRows, State.arrRows, State.pure.fillC, State.bound, State.rd, takeC, args0, State.res, State.res1, State.resS, State.resL, normS, AC.pure, splice, ↓reduceIte, Nat.reduceEqDiff, Nat.reduceLT, Nat.reduceLeDiff, Nat.reduceAdd, Nat.reduceSub, Nat.reduceMul, Int.reduceLE, Int.reduceLT, Int.reduceToNat, Int.reduceEq, Int.reduceNe, Int.reduceAdd, Int.reduceMul, Int.reducePow, Int.reduceNeg, Nat.reduceBEq, Int.reduceBNe, Int.reduceBEq, reduceCtorEq, ne_eq, IntWalk.iteOmega]
      (refine fin_same rfl ?_ not_x_r; simp only [rs39, zS, State.step, State.pure, State.pure.capsOf, arrGo, State.ghosts, State.ghost, State.srcRows, State.arrRows, State.pure.fillC, State.bound, State.rd, takeC, args0, State.res, State.res1, State.resS, State.resL, normS, AC.pure, splice, ↓reduceIte, Nat.reduceEqDiff, Nat.reduceLT, Nat.reduceLeDiff, Nat.reduceAdd, Nat.reduceSub, Nat.reduceMul, Int.reduceLE, Int.reduceLT, Int.reduceToNat, Int.reduceEq, Int.reduceNe, Int.reduceAdd, Int.reduceMul, Int.reducePow, Int.reduceNeg, Nat.reduceBEq, Int.reduceBNe, Int.reduceBEq, reduceCtorEq, ne_eq, IntWalk.iteOmega])) l [] 1 rfl (.inl rfl) []
  rw [List.append_nil] at this
  exact this
theorem T40 (k : Kept) (now : Int) (H : List Blk) (id : Nat) (hH : H[id]? = some (.cells [.int .i64 now])) : RunsTo Try.prog 40 [.agg k.enc, .c (.ptr (some (id, 0)))] H (.c (.bool (decide (now ≤ k.last)))) H := by
  have h2 : ∀ b, (H ++ [b])[id]? = some (.cells [.int .i64 now]) := fun b => Ext.app H [b] _ _ hH
  refine R40 (by simp) ?_
  simp -implicitDefEqProofs (disch := omega) only [i40_0, i40_1, i40, Kept.enc, h2, zS, State.step, State.pure, State.pure.capsOf, arrGo, State.ghosts, State.ghost, State.srcRows, State.arrRows, State.pure.fillC, State.bound, State.rd, takeC, args0, State.res, State.res1, State.resS, State.resL, normS, AC.pure, splice, ↓reduceIte, Nat.reduceEqDiff, Nat.reduceLT, Nat.reduceLeDiff, Nat.reduceAdd, Nat.reduceSub, Nat.reduceMul, Int.reduceLE, Int.reduceLT, Int.reduceToNat, Int.reduceEq, Int.reduceNe, Int.reduceAdd, Int.reduceMul, Int.reducePow, Int.reduceNeg, Nat.reduceBEq, Int.reduceBNe, Int.reduceBEq, reduceCtorEq, ne_eq, IntWalk.iteOmega]
  (refine fin_same rfl ?_ not_x_r; simp only [rs40, zS, State.step, State.pure, State.pure.capsOf, arrGo, State.ghosts, State.ghost, State.srcRows, State.arrRows, State.pure.fillC, State.bound, State.rd, takeC, args0, State.res, State.res1, State.resS, State.resL, normS, AC.pure, splice, ↓reduceIte, Nat.reduceEqDiff, Nat.reduceLT, Nat.reduceLeDiff, Nat.reduceAdd, Nat.reduceSub, Nat.reduceMul, Int.reduceLE, Int.reduceLT, Int.reduceToNat, Int.reduceEq, Int.reduceNe, Int.reduceAdd, Int.reduceMul, Int.reducePow, Int.reduceNeg, Nat.reduceBEq, Int.reduceBNe, Int.reduceBEq, reduceCtorEq, ne_eq, IntWalk.iteOmega])
theorem T41 (k : Kept) (o : Int) (H : List Blk) (id : Nat) (hH : H[id]? = some (.cells [.int .i64 o])) : RunsTo Try.prog 41 [.agg k.enc, .c (.ptr (some (id, 0)))] H (.c (.bool (!decide (k.object = o)))) H := by
  have h2 : ∀ b, (H ++ [b])[id]? = some (.cells [.int .i64 o]) := fun b => Ext.app H [b] _ _ hH
  refine R41 (by simp) ?_
  simp -implicitDefEqProofs (disch := omega) only [i41_0, i41_1, i41, Kept.enc, h2, zS, State.step, State.pure, State.pure.capsOf, arrGo, State.ghosts, State.ghost, State.srcRows, State.arrRows, State.pure.fillC, State.bound, State.rd, takeC, args0, State.res, State.res1, State.resS, State.resL, normS, AC.pure, splice, ↓reduceIte, Nat.reduceEqDiff, Nat.reduceLT, Nat.reduceLeDiff, Nat.reduceAdd, Nat.reduceSub, Nat.reduceMul, Int.reduceLE, Int.reduceLT, Int.reduceToNat, Int.reduceEq, Int.reduceNe, Int.reduceAdd, Int.reduceMul, Int.reducePow, Int.reduceNeg, Nat.reduceBEq, Int.reduceBNe, Int.reduceBEq, reduceCtorEq, ne_eq, IntWalk.iteOmega]
  (refine fin_same rfl ?_ not_x_r; simp only [rs41, zS, State.step, State.pure, State.pure.capsOf, arrGo, State.ghosts, State.ghost, State.srcRows, State.arrRows, State.pure.fillC, State.bound, State.rd, takeC, args0, State.res, State.res1, State.resS, State.resL, normS, AC.pure, splice, ↓reduceIte, Nat.reduceEqDiff, Nat.reduceLT, Nat.reduceLeDiff, Nat.reduceAdd, Nat.reduceSub, Nat.reduceMul, Int.reduceLE, Int.reduceLT, Int.reduceToNat, Int.reduceEq, Int.reduceNe, Int.reduceAdd, Int.reduceMul, Int.reducePow, Int.reduceNeg, Nat.reduceBEq, Int.reduceBNe, Int.reduceBEq, reduceCtorEq, ne_eq, IntWalk.iteOmega])
end Go.Proofs.Ytimapebigcmbmaa

set_option linter.unusedVariables false
set_option linter.unusedSimpArgs false
namespace Go.Proofs.Ytimapebigcmbmaa
open Go Go.AI Go.Proofs

def tick (c : Cache) (n : Int) : Cache × Int :=
  if check c ≠ 0 then (c, check c) else if n < c.now then (c, 15) else if 1000000 < n then (c, 3) else (⟨c.room, n, c.items.filter fun k => decide (n ≤ k.last)⟩, 0)
def forget (c : Cache) (o : Int) : Cache × Int × Int :=
  if check c ≠ 0 then (c, 0, check c) else (⟨c.room, c.now, c.items.filter fun k => !decide (k.object = o)⟩, (c.items.length : Int) - (c.items.filter fun k => !decide (k.object = o)).length, 0)
theorem check_ne {c : Cache} : (check c = 0) = False → check c ≠ 0 := fun h => by simp [h]
theorem T22 (c : Cache) (n : Int) (hc : c.Ok) : RunsTo Try.prog 22 [.agg c.enc, .c (.int .i64 n)] [] (.tup [.agg (tick c n).1.enc, .c (.int .i64 (tick c n).2)]) [] := by
  have h12 := T12 c hc
  have hn := hc.few
  have h39 := fun H hH => T39 c.items hn H 40 1 (fun k => decide (n ≤ k.last)) fun x _ Y hY => T40 x n Y 1 (hY 1 _ hH)
  clear hc
  refine R22 (by simp) ?_
  simp -implicitDefEqProofs (disch := omega) only [i22_0, i22_1, i22_2, i22_3, i22_4, i22_5, i22_6, i22_7, i22_8, i22, Cache.enc, zS, State.step, State.pure, State.pure.capsOf, arrGo, State.ghosts, State.ghost, State.srcRows, State.arrRows, State.pure.fillC, State.bound, State.rd, takeC, args0, State.res, State.res1, State.resS, State.resL, normS, AC.pure, splice, ↓reduceIte, Nat.reduceEqDiff, Nat.reduceLT, Nat.reduceLeDiff, Nat.reduceAdd, Nat.reduceSub, Nat.reduceMul, Int.reduceLE, Int.reduceLT, Int.reduceToNat, Int.reduceEq, Int.reduceNe, Int.reduceAdd, Int.reduceMul, Int.reducePow, Int.reduceNeg, Nat.reduceBEq, Int.reduceBNe, Int.reduceBEq, reduceCtorEq, ne_eq, IntWalk.iteOmega]
  refine call_pure h12 rfl rfl ?_
  simp -implicitDefEqProofs (disch := omega) only [zS, State.step, State.pure, State.pure.capsOf, arrGo, State.ghosts, State.ghost, State.srcRows, State.arrRows, State.pure.fillC, State.bound, State.rd, takeC, args0, State.res, State.res1, State.resS, State.resL, normS, AC.pure, splice, ↓reduceIte, Nat.reduceEqDiff, Nat.reduceLT, Nat.reduceLeDiff, Nat.reduceAdd, Nat.reduceSub, Nat.reduceMul, Int.reduceLE, Int.reduceLT, Int.reduceToNat, Int.reduceEq, Int.reduceNe, Int.reduceAdd, Int.reduceMul, Int.reducePow, Int.reduceNeg, Nat.reduceBEq, Int.reduceBNe, Int.reduceBEq, reduceCtorEq, ne_eq, IntWalk.iteOmega]
  refine gCond_d (fun c1 c1' => ?_) (fun c1 c1' => ?_)
  · simp -implicitDefEqProofs (disch := omega) only [i22_0, i22_1, i22_2, i22_3, i22_4, i22_5, i22_6, i22_7, i22_8, i22, zS, State.step, State.pure, State.pure.capsOf, arrGo, State.ghosts, State.ghost, State.srcRows, State.arrRows, State.pure.fillC, State.bound, State.rd, takeC, args0, State.res, State.res1, State.resS, State.resL, normS, AC.pure, splice, ↓reduceIte, Nat.reduceEqDiff, Nat.reduceLT, Nat.reduceLeDiff, Nat.reduceAdd, Nat.reduceSub, Nat.reduceMul, Int.reduceLE, Int.reduceLT, Int.reduceToNat, Int.reduceEq, Int.reduceNe, Int.reduceAdd, Int.reduceMul, Int.reducePow, Int.reduceNeg, Nat.reduceBEq, Int.reduceBNe, Int.reduceBEq, reduceCtorEq, ne_eq, IntWalk.iteOmega]
    refine gCond_d (fun c2 c2' => ?_) (fun c2 c2' => ?_)
    · have e : tick c n = (c, 15) := by rw [tick, if_neg (by simpa using c1), if_pos c2]
      simp -implicitDefEqProofs (disch := omega) only [i22_0, i22_1, i22_2, i22_3, i22_4, i22_5, i22_6, i22_7, i22_8, i22, zS, State.step, State.pure, State.pure.capsOf, arrGo, State.ghosts, State.ghost, State.srcRows, State.arrRows, State.pure.fillC, State.bound, State.rd, takeC, args0, State.res, State.res1, State.resS, State.resL, normS, AC.pure, splice, ↓reduceIte, Nat.reduceEqDiff, Nat.reduceLT, Nat.reduceLeDiff, Nat.reduceAdd, Nat.reduceSub, Nat.reduceMul, Int.reduceLE, Int.reduceLT, Int.reduceToNat, Int.reduceEq, Int.reduceNe, Int.reduceAdd, Int.reduceMul, Int.reducePow, Int.reduceNeg, Nat.reduceBEq, Int.reduceBNe, Int.reduceBEq, reduceCtorEq, ne_eq, IntWalk.iteOmega]
      (refine fin_pure rfl ?_ not_x_r; simp only [rs22, e, zS, State.step, State.pure, State.pure.capsOf, arrGo, State.ghosts, State.ghost, State.srcRows, State.arrRows, State.pure.fillC, State.bound, State.rd, takeC, args0, State.res, State.res1, State.resS, State.resL, normS, AC.pure, splice, ↓reduceIte, Nat.reduceEqDiff, Nat.reduceLT, Nat.reduceLeDiff, Nat.reduceAdd, Nat.reduceSub, Nat.reduceMul, Int.reduceLE, Int.reduceLT, Int.reduceToNat, Int.reduceEq, Int.reduceNe, Int.reduceAdd, Int.reduceMul, Int.reducePow, Int.reduceNeg, Nat.reduceBEq, Int.reduceBNe, Int.reduceBEq, reduceCtorEq, ne_eq, IntWalk.iteOmega])
      rfl
    · simp -implicitDefEqProofs (disch := omega) only [i22_0, i22_1, i22_2, i22_3, i22_4, i22_5, i22_6, i22_7, i22_8, i22, zS, State.step, State.pure, State.pure.capsOf, arrGo, State.ghosts, State.ghost, State.srcRows, State.arrRows, State.pure.fillC, State.bound, State.rd, takeC, args0, State.res, State.res1, State.resS, State.resL, normS, AC.pure, splice, ↓reduceIte, Nat.reduceEqDiff, Nat.reduceLT, Nat.reduceLeDiff, Nat.reduceAdd, Nat.reduceSub, Nat.reduceMul, Int.reduceLE, Int.reduceLT, Int.reduceToNat, Int.reduceEq, Int.reduceNe, Int.reduceAdd, Int.reduceMul, Int.reducePow, Int.reduceNeg, Nat.reduceBEq, Int.reduceBNe, Int.reduceBEq, reduceCtorEq, ne_eq, IntWalk.iteOmega]
      refine gCond_d (fun c3 c3' => ?_) (fun c3 c3' => ?_)
      · have e : tick c n = (c, 3) := by rw [tick, if_neg (by simpa using c1), if_neg c2, if_pos c3]
        simp -implicitDefEqProofs (disch := omega) only [i22_0, i22_1, i22_2, i22_3, i22_4, i22_5, i22_6, i22_7, i22_8, i22, zS, State.step, State.pure, State.pure.capsOf, arrGo, State.ghosts, State.ghost, State.srcRows, State.arrRows, State.pure.fillC, State.bound, State.rd, takeC, args0, State.res, State.res1, State.resS, State.resL, normS, AC.pure, splice, ↓reduceIte, Nat.reduceEqDiff, Nat.reduceLT, Nat.reduceLeDiff, Nat.reduceAdd, Nat.reduceSub, Nat.reduceMul, Int.reduceLE, Int.reduceLT, Int.reduceToNat, Int.reduceEq, Int.reduceNe, Int.reduceAdd, Int.reduceMul, Int.reducePow, Int.reduceNeg, Nat.reduceBEq, Int.reduceBNe, Int.reduceBEq, reduceCtorEq, ne_eq, IntWalk.iteOmega]
        (refine fin_pure rfl ?_ not_x_r; simp only [rs22, e, zS, State.step, State.pure, State.pure.capsOf, arrGo, State.ghosts, State.ghost, State.srcRows, State.arrRows, State.pure.fillC, State.bound, State.rd, takeC, args0, State.res, State.res1, State.resS, State.resL, normS, AC.pure, splice, ↓reduceIte, Nat.reduceEqDiff, Nat.reduceLT, Nat.reduceLeDiff, Nat.reduceAdd, Nat.reduceSub, Nat.reduceMul, Int.reduceLE, Int.reduceLT, Int.reduceToNat, Int.reduceEq, Int.reduceNe, Int.reduceAdd, Int.reduceMul, Int.reducePow, Int.reduceNeg, Nat.reduceBEq, Int.reduceBNe, Int.reduceBEq, reduceCtorEq, ne_eq, IntWalk.iteOmega])
        rfl
      · have e : tick c n = (⟨c.room, n, c.items.filter fun k => decide (n ≤ k.last)⟩, 0) := by rw [tick, if_neg (by simpa using c1), if_neg c2, if_neg c3]
        simp -implicitDefEqProofs (disch := omega) only [i22_0, i22_1, i22_2, i22_3, i22_4, i22_5, i22_6, i22_7, i22_8, i22, zS, State.step, State.pure, State.pure.capsOf, arrGo, State.ghosts, State.ghost, State.srcRows, State.arrRows, State.pure.fillC, State.bound, State.rd, takeC, args0, State.res, State.res1, State.resS, State.resL, normS, AC.pure, splice, ↓reduceIte, Nat.reduceEqDiff, Nat.reduceLT, Nat.reduceLeDiff, Nat.reduceAdd, Nat.reduceSub, Nat.reduceMul, Int.reduceLE, Int.reduceLT, Int.reduceToNat, Int.reduceEq, Int.reduceNe, Int.reduceAdd, Int.reduceMul, Int.reducePow, Int.reduceNeg, Nat.reduceBEq, Int.reduceBNe, Int.reduceBEq, reduceCtorEq, ne_eq, IntWalk.iteOmega]
        refine call_same (by decide) (h39 _ rfl) ?_
        simp -implicitDefEqProofs (disch := omega) only [i22_0, i22_1, i22_2, i22_3, i22_4, i22_5, i22_6, i22_7, i22_8, i22, zS, State.step, State.pure, State.pure.capsOf, arrGo, State.ghosts, State.ghost, State.srcRows, State.arrRows, State.pure.fillC, State.bound, State.rd, takeC, args0, State.res, State.res1, State.resS, State.resL, normS, AC.pure, splice, ↓reduceIte, Nat.reduceEqDiff, Nat.reduceLT, Nat.reduceLeDiff, Nat.reduceAdd, Nat.reduceSub, Nat.reduceMul, Int.reduceLE, Int.reduceLT, Int.reduceToNat, Int.reduceEq, Int.reduceNe, Int.reduceAdd, Int.reduceMul, Int.reducePow, Int.reduceNeg, Nat.reduceBEq, Int.reduceBNe, Int.reduceBEq, reduceCtorEq, ne_eq, IntWalk.iteOmega]
        (refine fin_pure rfl ?_ not_x_r; simp only [rs22, e, zS, State.step, State.pure, State.pure.capsOf, arrGo, State.ghosts, State.ghost, State.srcRows, State.arrRows, State.pure.fillC, State.bound, State.rd, takeC, args0, State.res, State.res1, State.resS, State.resL, normS, AC.pure, splice, ↓reduceIte, Nat.reduceEqDiff, Nat.reduceLT, Nat.reduceLeDiff, Nat.reduceAdd, Nat.reduceSub, Nat.reduceMul, Int.reduceLE, Int.reduceLT, Int.reduceToNat, Int.reduceEq, Int.reduceNe, Int.reduceAdd, Int.reduceMul, Int.reducePow, Int.reduceNeg, Nat.reduceBEq, Int.reduceBNe, Int.reduceBEq, reduceCtorEq, ne_eq, IntWalk.iteOmega])
        rfl
  · have e : tick c n = (c, check c) := by rw [tick, if_pos c1]
    simp -implicitDefEqProofs (disch := omega) only [i22_0, i22_1, i22_2, i22_3, i22_4, i22_5, i22_6, i22_7, i22_8, i22, zS, State.step, State.pure, State.pure.capsOf, arrGo, State.ghosts, State.ghost, State.srcRows, State.arrRows, State.pure.fillC, State.bound, State.rd, takeC, args0, State.res, State.res1, State.resS, State.resL, normS, AC.pure, splice, ↓reduceIte, Nat.reduceEqDiff, Nat.reduceLT, Nat.reduceLeDiff, Nat.reduceAdd, Nat.reduceSub, Nat.reduceMul, Int.reduceLE, Int.reduceLT, Int.reduceToNat, Int.reduceEq, Int.reduceNe, Int.reduceAdd, Int.reduceMul, Int.reducePow, Int.reduceNeg, Nat.reduceBEq, Int.reduceBNe, Int.reduceBEq, reduceCtorEq, ne_eq, IntWalk.iteOmega]
    (refine fin_pure rfl ?_ not_x_r; simp only [rs22, e, zS, State.step, State.pure, State.pure.capsOf, arrGo, State.ghosts, State.ghost, State.srcRows, State.arrRows, State.pure.fillC, State.bound, State.rd, takeC, args0, State.res, State.res1, State.resS, State.resL, normS, AC.pure, splice, ↓reduceIte, Nat.reduceEqDiff, Nat.reduceLT, Nat.reduceLeDiff, Nat.reduceAdd, Nat.reduceSub, Nat.reduceMul, Int.reduceLE, Int.reduceLT, Int.reduceToNat, Int.reduceEq, Int.reduceNe, Int.reduceAdd, Int.reduceMul, Int.reducePow, Int.reduceNeg, Nat.reduceBEq, Int.reduceBNe, Int.reduceBEq, reduceCtorEq, ne_eq, IntWalk.iteOmega])
    rfl
theorem T24 (c : Cache) (o : Int) (hc : c.Ok) : RunsTo Try.prog 24 [.agg c.enc, .c (.int .i64 o)] [] (.tup [.agg (forget c o).1.enc, .c (.int .i64 (forget c o).2.1), .c (.int .i64 (forget c o).2.2)]) [] := by
  have h12 := T12 c hc
  have hn := hc.few
  have hl := List.length_filter_le (fun k : Kept => !decide (k.object = o)) c.items
  have h39 := fun H hH => T39 c.items hn H 41 1 (fun k => !decide (k.object = o)) fun x _ Y hY => T41 x o Y 1 (hY 1 _ hH)
  clear hc
  refine R24 (by simp) ?_
  simp -implicitDefEqProofs (disch := omega) only [i24_0, i24_1, i24_2, i24_3, i24_4, i24, Cache.enc, zS, State.step, State.pure, State.pure.capsOf, arrGo, State.ghosts, State.ghost, State.srcRows, State.arrRows, State.pure.fillC, State.bound, State.rd, takeC, args0, State.res, State.res1, State.resS, State.resL, normS, AC.pure, splice, ↓reduceIte, Nat.reduceEqDiff, Nat.reduceLT, Nat.reduceLeDiff, Nat.reduceAdd, Nat.reduceSub, Nat.reduceMul, Int.reduceLE, Int.reduceLT, Int.reduceToNat, Int.reduceEq, Int.reduceNe, Int.reduceAdd, Int.reduceMul, Int.reducePow, Int.reduceNeg, Nat.reduceBEq, Int.reduceBNe, Int.reduceBEq, reduceCtorEq, ne_eq, IntWalk.iteOmega]
  refine call_pure h12 rfl rfl ?_
  simp -implicitDefEqProofs (disch := omega) only [zS, State.step, State.pure, State.pure.capsOf, arrGo, State.ghosts, State.ghost, State.srcRows, State.arrRows, State.pure.fillC, State.bound, State.rd, takeC, args0, State.res, State.res1, State.resS, State.resL, normS, AC.pure, splice, ↓reduceIte, Nat.reduceEqDiff, Nat.reduceLT, Nat.reduceLeDiff, Nat.reduceAdd, Nat.reduceSub, Nat.reduceMul, Int.reduceLE, Int.reduceLT, Int.reduceToNat, Int.reduceEq, Int.reduceNe, Int.reduceAdd, Int.reduceMul, Int.reducePow, Int.reduceNeg, Nat.reduceBEq, Int.reduceBNe, Int.reduceBEq, reduceCtorEq, ne_eq, IntWalk.iteOmega]
  refine gCond_d (fun c1 c1' => ?_) (fun c1 c1' => ?_)
  · have e : forget c o = (⟨c.room, c.now, c.items.filter fun k => !decide (k.object = o)⟩, (c.items.length : Int) - (c.items.filter fun k => !decide (k.object = o)).length, 0) := by rw [forget, if_neg (by simpa using c1)]
    simp -implicitDefEqProofs (disch := omega) only [i24_0, i24_1, i24_2, i24_3, i24_4, i24, zS, State.step, State.pure, State.pure.capsOf, arrGo, State.ghosts, State.ghost, State.srcRows, State.arrRows, State.pure.fillC, State.bound, State.rd, takeC, args0, State.res, State.res1, State.resS, State.resL, normS, AC.pure, splice, ↓reduceIte, Nat.reduceEqDiff, Nat.reduceLT, Nat.reduceLeDiff, Nat.reduceAdd, Nat.reduceSub, Nat.reduceMul, Int.reduceLE, Int.reduceLT, Int.reduceToNat, Int.reduceEq, Int.reduceNe, Int.reduceAdd, Int.reduceMul, Int.reducePow, Int.reduceNeg, Nat.reduceBEq, Int.reduceBNe, Int.reduceBEq, reduceCtorEq, ne_eq, IntWalk.iteOmega]
    refine call_same (by decide) (h39 _ rfl) ?_
    simp -implicitDefEqProofs (disch := omega) only [i24_0, i24_1, i24_2, i24_3, i24_4, i24, rowsK_len, zS, State.step, State.pure, State.pure.capsOf, arrGo, State.ghosts, State.ghost, State.srcRows, State.arrRows, State.pure.fillC, State.bound, State.rd, takeC, args0, State.res, State.res1, State.resS, State.resL, normS, AC.pure, splice, ↓reduceIte, Nat.reduceEqDiff, Nat.reduceLT, Nat.reduceLeDiff, Nat.reduceAdd, Nat.reduceSub, Nat.reduceMul, Int.reduceLE, Int.reduceLT, Int.reduceToNat, Int.reduceEq, Int.reduceNe, Int.reduceAdd, Int.reduceMul, Int.reducePow, Int.reduceNeg, Nat.reduceBEq, Int.reduceBNe, Int.reduceBEq, reduceCtorEq, ne_eq, IntWalk.iteOmega]
    refine ⟨?_, ?_⟩ <;>
    · simp -implicitDefEqProofs (disch := omega) only [g_goTB, rowsK_len, zS, State.step, State.pure, State.pure.capsOf, arrGo, State.ghosts, State.ghost, State.srcRows, State.arrRows, State.pure.fillC, State.bound, State.rd, takeC, args0, State.res, State.res1, State.resS, State.resL, normS, AC.pure, splice, ↓reduceIte, Nat.reduceEqDiff, Nat.reduceLT, Nat.reduceLeDiff, Nat.reduceAdd, Nat.reduceSub, Nat.reduceMul, Int.reduceLE, Int.reduceLT, Int.reduceToNat, Int.reduceEq, Int.reduceNe, Int.reduceAdd, Int.reduceMul, Int.reducePow, Int.reduceNeg, Nat.reduceBEq, Int.reduceBNe, Int.reduceBEq, reduceCtorEq, ne_eq, IntWalk.iteOmega]
      (refine fin_pure rfl ?_ not_x_r; simp only [rs24, e, zS, State.step, State.pure, State.pure.capsOf, arrGo, State.ghosts, State.ghost, State.srcRows, State.arrRows, State.pure.fillC, State.bound, State.rd, takeC, args0, State.res, State.res1, State.resS, State.resL, normS, AC.pure, splice, ↓reduceIte, Nat.reduceEqDiff, Nat.reduceLT, Nat.reduceLeDiff, Nat.reduceAdd, Nat.reduceSub, Nat.reduceMul, Int.reduceLE, Int.reduceLT, Int.reduceToNat, Int.reduceEq, Int.reduceNe, Int.reduceAdd, Int.reduceMul, Int.reducePow, Int.reduceNeg, Nat.reduceBEq, Int.reduceBNe, Int.reduceBEq, reduceCtorEq, ne_eq, IntWalk.iteOmega])
      rfl
  · have e : forget c o = (c, 0, check c) := by rw [forget, if_pos c1]
    simp -implicitDefEqProofs (disch := omega) only [i24_0, i24_1, i24_2, i24_3, i24_4, i24, zS, State.step, State.pure, State.pure.capsOf, arrGo, State.ghosts, State.ghost, State.srcRows, State.arrRows, State.pure.fillC, State.bound, State.rd, takeC, args0, State.res, State.res1, State.resS, State.resL, normS, AC.pure, splice, ↓reduceIte, Nat.reduceEqDiff, Nat.reduceLT, Nat.reduceLeDiff, Nat.reduceAdd, Nat.reduceSub, Nat.reduceMul, Int.reduceLE, Int.reduceLT, Int.reduceToNat, Int.reduceEq, Int.reduceNe, Int.reduceAdd, Int.reduceMul, Int.reducePow, Int.reduceNeg, Nat.reduceBEq, Int.reduceBNe, Int.reduceBEq, reduceCtorEq, ne_eq, IntWalk.iteOmega]
    (refine fin_pure rfl ?_ not_x_r; simp only [rs24, e, zS, State.step, State.pure, State.pure.capsOf, arrGo, State.ghosts, State.ghost, State.srcRows, State.arrRows, State.pure.fillC, State.bound, State.rd, takeC, args0, State.res, State.res1, State.resS, State.resL, normS, AC.pure, splice, ↓reduceIte, Nat.reduceEqDiff, Nat.reduceLT, Nat.reduceLeDiff, Nat.reduceAdd, Nat.reduceSub, Nat.reduceMul, Int.reduceLE, Int.reduceLT, Int.reduceToNat, Int.reduceEq, Int.reduceNe, Int.reduceAdd, Int.reduceMul, Int.reducePow, Int.reduceNeg, Nat.reduceBEq, Int.reduceBNe, Int.reduceBEq, reduceCtorEq, ne_eq, IntWalk.iteOmega])
    rfl
end Go.Proofs.Ytimapebigcmbmaa

set_option linter.unusedVariables false
set_option linter.unusedSimpArgs false
namespace Go.Proofs.Ytimapebigcmbmaa
open Go Go.AI Go.Proofs Go.RowKit

theorem ovl_of {P : Program} {f t r : Nat} {fn : Func} (hf : P.funcs[f]? = some fn) (hname : (fn.name == "runtime.NumGoroutine") = false) (hb : fn.body.isNone = true) (hn : Extern.findNext fn = none) (he : Extern.find fn = some (Extern.SlicesOverlaps.overlaps #[t, t] #[r])) : OvlOk P f t := by
  refine ⟨r, fun args w => ?_⟩
  have h2' : ¬ fn.name = "runtime.NumGoroutine" := by simpa using hname
  have hb' : fn.body = none := by simpa using hb
  simp [callFunc, hf, h2', hb', hn, he]
theorem ovl44 : OvlOk Try.prog 44 22 := ovl_of (r := 4) Try.func44 (by kernel_rfl) (by kernel_rfl) (by kernel_rfl) (by kernel_rfl)
/-- The cells of an item that is not there. -/
def zK : List AC := [.int .i64 0, .int .i64 0, .int .i64 0, .str ⟨#[]⟩, .int .i64 0, .int .i64 0, .int .i64 0]
/-- A copy that may be written. -/
theorem Q37c (l : List Kept) (hl : l.length ≤ 1000000) (H : List Blk) : RunsQ Try.prog 37 [.c (.list 0 7 (rowsK l))] H fun r H' =>
    (l = [] ∧ r = .c (.list 1 7 []) ∧ H' = H) ∨ (l ≠ [] ∧ ∃ extra, r = .c (.sl H.length 7 0 l.length (l.length + extra)) ∧ H' = H ++ [.arr 26 7 (rowsK l ++ List.replicate extra zK)]) := by
  refine Q37 (by simp) ?_
  simp -implicitDefEqProofs (disch := omega) only [i37_0, i37_1, i37_2, i37_3, i37, zS, State.step, State.pure, State.pure.capsOf, arrGo, State.ghosts, State.ghost, State.srcRows, State.arrRows, State.pure.fillC, State.bound, State.rd, takeC, args0, State.res, State.res1, State.resS, State.resL, normS, AC.pure, splice, ↓reduceIte, Nat.reduceEqDiff, Nat.reduceLT, Nat.reduceLeDiff, Nat.reduceAdd, Nat.reduceSub, Nat.reduceMul, Int.reduceLE, Int.reduceLT, Int.reduceToNat, Int.reduceEq, Int.reduceNe, Int.reduceAdd, Int.reduceMul, Int.reducePow, Int.reduceNeg, Nat.reduceBEq, Int.reduceBNe, Int.reduceBEq, reduceCtorEq, ne_eq, IntWalk.iteOmega]
  refine g_isnil rfl fun b hb => ?_
  have old : ∀ (id : Nat) (b : Blk), H[id]? = some b → H[id]? = some b ∨ b.Below H.length := fun id b hb => .inl hb
  cases l with
  | nil =>
    cases b with
    | true =>
      simp -implicitDefEqProofs (disch := omega) only [i37_0, i37_1, i37_2, i37_3, i37, zS, State.step, State.pure, State.pure.capsOf, arrGo, State.ghosts, State.ghost, State.srcRows, State.arrRows, State.pure.fillC, State.bound, State.rd, takeC, args0, State.res, State.res1, State.resS, State.resL, normS, AC.pure, splice, ↓reduceIte, Nat.reduceEqDiff, Nat.reduceLT, Nat.reduceLeDiff, Nat.reduceAdd, Nat.reduceSub, Nat.reduceMul, Int.reduceLE, Int.reduceLT, Int.reduceToNat, Int.reduceEq, Int.reduceNe, Int.reduceAdd, Int.reduceMul, Int.reducePow, Int.reduceNeg, Nat.reduceBEq, Int.reduceBNe, Int.reduceBEq, reduceCtorEq, ne_eq, IntWalk.iteOmega]
      exact fin_one (x := .t 2) (r := .c (.list 1 7 [])) (by simp) (Nat.le_refl _) rfl not_x_r old
    | false =>
      simp -implicitDefEqProofs (disch := omega) only [i37_0, i37_1, i37_2, i37_3, i37, rowsK, State.stepA, List.length_nil, List.map_nil, zS, State.step, State.pure, State.pure.capsOf, arrGo, State.ghosts, State.ghost, State.srcRows, State.arrRows, State.pure.fillC, State.bound, State.rd, takeC, args0, State.res, State.res1, State.resS, State.resL, normS, AC.pure, splice, ↓reduceIte, Nat.reduceEqDiff, Nat.reduceLT, Nat.reduceLeDiff, Nat.reduceAdd, Nat.reduceSub, Nat.reduceMul, Int.reduceLE, Int.reduceLT, Int.reduceToNat, Int.reduceEq, Int.reduceNe, Int.reduceAdd, Int.reduceMul, Int.reducePow, Int.reduceNeg, Nat.reduceBEq, Int.reduceBNe, Int.reduceBEq, reduceCtorEq, ne_eq, IntWalk.iteOmega]
      intro extra hex
      exact fin_one (x := .t 2) (r := .c (.list 1 7 [])) (by simp) (Nat.le_refl _) rfl not_x_r old
  | cons k l =>
    cases b with
    | true => have := hb rfl; simp [rowsK] at this
    | false =>
      have e : rowsK (k :: l) = k.enc :: rowsK l := rfl
      have el : (rowsK l).length = l.length := rowsK_len l
      have hl' : l.length + 1 ≤ 1000000 := by simpa using hl
      simp -implicitDefEqProofs (disch := omega) only [i37_0, i37_1, i37_2, i37_3, i37, e, el, State.stepA, zS, State.step, State.pure, State.pure.capsOf, arrGo, State.ghosts, State.ghost, State.srcRows, State.arrRows, State.pure.fillC, State.bound, State.rd, takeC, args0, State.res, State.res1, State.resS, State.resL, normS, AC.pure, splice, ↓reduceIte, Nat.reduceEqDiff, Nat.reduceLT, Nat.reduceLeDiff, Nat.reduceAdd, Nat.reduceSub, Nat.reduceMul, Int.reduceLE, Int.reduceLT, Int.reduceToNat, Int.reduceEq, Int.reduceNe, Int.reduceAdd, Int.reduceMul, Int.reducePow, Int.reduceNeg, Nat.reduceBEq, Int.reduceBNe, Int.reduceBEq, reduceCtorEq, ne_eq, IntWalk.iteOmega]
      intro extra hex
      refine fin_one (x := .t 2) (r := .c (.sl H.length 7 0 (l.length + 1) (l.length + 1 + extra))) (by first | exact .inr ⟨by simp, extra, rfl, rfl⟩ | exact .inr ⟨extra, rfl, rfl⟩ | exact ⟨extra, rfl, rfl⟩) (by rw [List.length_append]; omega) rfl not_x_r (fun id b hb => ?_)
      rw [List.getElem?_append] at hb
      split at hb
      · exact .inl hb
      · have hi : id - H.length = 0 := by
          cases hq : id - H.length with
          | zero => rfl
          | succ q => rw [hq] at hb; simp at hb
        rw [hi] at hb
        obtain rfl := Option.some.inj hb
        exact .inr trivial

theorem set_same (H : List Blk) (id : Nat) (b c : Blk) : (H.set id b).set id c = H.set id c := by simp
theorem Below_set {H : List Blk} {id : Nat} (hlt : id < H.length) (i : Nat) (b : Blk) (hb : (H.set id .dead)[i]? = some b) : H[i]? = some b ∨ b.Below H.length := by
  by_cases e : id = i
  · subst e; rw [List.getElem?_set_self hlt] at hb; obtain rfl := Option.some.inj hb; exact .inr trivial
  · rw [List.getElem?_set_ne e] at hb; exact .inl hb
theorem set_self' {H : List Blk} {id : Nat} {b : Blk} (h : H[id]? = some b) : H.set id b = H := by
  obtain ⟨h1, h2⟩ := List.getElem?_eq_some_iff.1 h
  rw [← h2]; exact List.set_getElem_self h1
theorem setD_mk (e : List (Nat × AV)) (H : List Blk) (d : Nat) (v : AV) : State.setD ⟨e, H⟩ (some d) v = ⟨put e d v, H⟩ := rfl
theorem take_rows (l : List Kept) (spare : List (List AC)) : (rowsK l ++ spare).take l.length = rowsK l := by
  have h1 : (rowsK l).length = l.length := rowsK_len l
  rw [List.take_append_of_le_length (by omega), List.take_of_length_le (by omega)]
theorem ins_end (l : List Kept) (k : Kept) (spare : List (List AC)) (n : Nat) (hl : l.length = n) (hs : 0 < spare.length) : (spl (rowsK l ++ spare) n [k.enc]).take (n + 1) = rowsK (l.take n ++ k :: l.drop n) := by
  subst hl
  have h1 : (rowsK l).length = l.length := rowsK_len l
  rw [List.take_of_length_le (Nat.le_refl l.length), List.drop_of_length_le (Nat.le_refl l.length)]
  unfold spl
  rw [take_rows, List.take_append_of_le_length (by simp [h1]), List.take_of_length_le (by simp [h1])]
  simp [rowsK]
theorem T38end (l : List Kept) (k : Kept) (n c id : Nat) (spare : List (List AC)) (H : List Blk) (hid : H[id]? = some (.arr 26 7 (rowsK l ++ spare))) (hl : l.length = n) (hc : n + spare.length = c) (hn : n ≤ 1000000) : RunsQ Try.prog 38 [.c (.sl id 7 0 n c), .c (.int .i64 n), .c (.list 0 7 [k.enc])] H fun r H' =>
    r = .c (.list 0 7 (rowsK (l.take n ++ k :: l.drop n))) ∧ ∃ b, H' = H.set id b := by
  have hlen : (rowsK l ++ spare).length = c := by rw [List.length_append, rowsK_len]; omega
  have hlt : id < H.length := (List.getElem?_eq_some_iff.1 hid).1
  have htk : (rowsK l ++ spare).take n = rowsK l := by
    have h1 : (rowsK l).length = n := by rw [rowsK_len, hl]
    rw [List.take_append_of_le_length (by omega), List.take_of_length_le (by omega)]
  refine RunsQ.norm ?_
  refine Q38 (by simp) ?_
  generalize hF : FinQ rs38 H _ = F
  by_cases hroom : n + 1 ≤ c
  · have hg : (H.set id (.arr 26 7 (spl (rowsK l ++ spare) n [k.enc])))[id]? = some (.arr 26 7 (spl (rowsK l ++ spare) n [k.enc])) := List.getElem?_set_self hlt
    have hsl : (spl (rowsK l ++ spare) n [k.enc]).length = c := by rw [spl_len _ _ _ (by rw [hlen]; simpa using hroom), hlen]
    have he := ins_end l k spare n hl (by omega)
    simp -implicitDefEqProofs (disch := omega) only [i38_0, i38_1, i38_2, i38_3, i38_4, i38_5, i38_6, i38_7, i38_8, i38_9, i38_10, i38_11, i38_12, i38_13, i38_14, i38_15, i38_16, i38_17, i38_18, i38_19, i38_20, i38, Int.natCast_one, hid, hroom, hlen, setD_mk, hg, hsl, he, set_same, zS, State.step, State.pure, State.pure.capsOf, arrGo, State.ghosts, State.ghost, State.srcRows, State.arrRows, State.pure.fillC, State.bound, State.rd, takeC, args0, State.res, State.res1, State.resS, State.resL, normS, AC.pure, splice, ↓reduceIte, Nat.reduceEqDiff, Nat.reduceLT, Nat.reduceLeDiff, Nat.reduceAdd, Nat.reduceSub, Nat.reduceMul, Int.reduceLE, Int.reduceLT, Int.reduceToNat, Int.reduceEq, Int.reduceNe, Int.reduceAdd, Int.reduceMul, Int.reducePow, Int.reduceNeg, Nat.reduceBEq, Int.reduceBNe, Int.reduceBEq, reduceCtorEq, ne_eq, IntWalk.iteOmega]
    subst hF
    refine ⟨.c (.list 0 7 _), H.set id .dead, ⟨rfl, .dead, rfl⟩, not_x_r, H.length, (List.take_of_length_le (by simp)).symm, by simp, by simp, .inr rfl, .inl ?_, Below_set hlt⟩
    simp only [rs38, zS, State.step, State.pure, State.pure.capsOf, arrGo, State.ghosts, State.ghost, State.srcRows, State.arrRows, State.pure.fillC, State.bound, State.rd, takeC, args0, State.res, State.res1, State.resS, State.resL, normS, AC.pure, splice, ↓reduceIte, Nat.reduceEqDiff, Nat.reduceLT, Nat.reduceLeDiff, Nat.reduceAdd, Nat.reduceSub, Nat.reduceMul, Int.reduceLE, Int.reduceLT, Int.reduceToNat, Int.reduceEq, Int.reduceNe, Int.reduceAdd, Int.reduceMul, Int.reducePow, Int.reduceNeg, Nat.reduceBEq, Int.reduceBNe, Int.reduceBEq, reduceCtorEq, ne_eq, IntWalk.iteOmega]
  · have he : rowsK l ++ [k.enc] = rowsK (l.take n ++ k :: l.drop n) := by
      rw [List.take_of_length_le (by omega), List.drop_of_length_le (by omega)]; simp [rowsK]
    simp -implicitDefEqProofs (disch := omega) only [i38_0, i38_1, i38_2, i38_3, i38_4, i38_5, i38_6, i38_7, i38_8, i38_9, i38_10, i38_11, i38_12, i38_13, i38_14, i38_15, i38_16, i38_17, i38_18, i38_19, i38_20, i38, Int.natCast_one, hid, hroom, hlen, setD_mk, htk, he, zS, State.step, State.pure, State.pure.capsOf, arrGo, State.ghosts, State.ghost, State.srcRows, State.arrRows, State.pure.fillC, State.bound, State.rd, takeC, args0, State.res, State.res1, State.resS, State.resL, normS, AC.pure, splice, ↓reduceIte, Nat.reduceEqDiff, Nat.reduceLT, Nat.reduceLeDiff, Nat.reduceAdd, Nat.reduceSub, Nat.reduceMul, Int.reduceLE, Int.reduceLT, Int.reduceToNat, Int.reduceEq, Int.reduceNe, Int.reduceAdd, Int.reduceMul, Int.reducePow, Int.reduceNeg, Nat.reduceBEq, Int.reduceBNe, Int.reduceBEq, reduceCtorEq, ne_eq, IntWalk.iteOmega]
    repeat (refine And.intro (by omega) ?_)
    subst hF
    refine ⟨.c (.list 2 7 _), H, ⟨rfl, _, (set_self' hid).symm⟩, not_x_r, H.length, by simp, by simp, by simp, .inr rfl, .inl ?_, fun id b hb => .inl hb⟩
    simp only [rs38, zS, State.step, State.pure, State.pure.capsOf, arrGo, State.ghosts, State.ghost, State.srcRows, State.arrRows, State.pure.fillC, State.bound, State.rd, takeC, args0, State.res, State.res1, State.resS, State.resL, normS, AC.pure, splice, ↓reduceIte, Nat.reduceEqDiff, Nat.reduceLT, Nat.reduceLeDiff, Nat.reduceAdd, Nat.reduceSub, Nat.reduceMul, Int.reduceLE, Int.reduceLT, Int.reduceToNat, Int.reduceEq, Int.reduceNe, Int.reduceAdd, Int.reduceMul, Int.reducePow, Int.reduceNeg, Nat.reduceBEq, Int.reduceBNe, Int.reduceBEq, reduceCtorEq, ne_eq, IntWalk.iteOmega]
theorem rows_app (a b : List Kept) : rowsK (a ++ b) = rowsK a ++ rowsK b := by simp [rowsK]
theorem rows_cons (k : Kept) (b : List Kept) : rowsK (k :: b) = k.enc :: rowsK b := rfl
theorem mid_src (l : List Kept) (spare : List (List AC)) (at_ m : Nat) (hat : at_ ≤ l.length) (hm : l.length - at_ ≤ m) : (((rowsK l ++ spare).drop at_).take m).take (l.length - at_) = rowsK (l.drop at_) := by
  have h1 : (rowsK l).length = l.length := rowsK_len l
  rw [List.take_take, Nat.min_eq_left hm, List.drop_append_of_le_length (by omega), List.take_append_of_le_length (by rw [List.length_drop]; omega), List.take_of_length_le (by rw [List.length_drop]; omega)]
  simp [rowsK]
theorem mid_end (l : List Kept) (k : Kept) (spare : List (List AC)) (at_ : Nat) (hat : at_ ≤ l.length) (hs : 0 < spare.length) : (spl (spl (rowsK l ++ spare) (at_ + 1) (rowsK (l.drop at_))) at_ [k.enc]).take (l.length + 1) = rowsK (l.take at_ ++ k :: l.drop at_) := by
  have h1 : (rowsK l).length = l.length := rowsK_len l
  have h2 : (rowsK (l.drop at_)).length = l.length - at_ := by rw [rowsK_len, List.length_drop]
  have hA : ((rowsK l ++ spare).take (at_ + 1)).length = at_ + 1 := by rw [List.length_take, List.length_append]; omega
  have e1 : (spl (rowsK l ++ spare) (at_ + 1) (rowsK (l.drop at_))).take at_ = rowsK (l.take at_) := by
    unfold spl
    rw [List.append_assoc, List.take_append_of_le_length (by omega), List.take_take, Nat.min_eq_left (by omega), List.take_append_of_le_length (by omega)]
    simp [rowsK]
  have e2 : (spl (rowsK l ++ spare) (at_ + 1) (rowsK (l.drop at_))).drop (at_ + 1) = rowsK (l.drop at_) ++ (rowsK l ++ spare).drop (at_ + 1 + (rowsK (l.drop at_)).length) := by
    unfold spl
    rw [List.append_assoc, List.drop_append_of_le_length (by omega), List.drop_of_length_le (by omega)]; rfl
  have e3 : spl (spl (rowsK l ++ spare) (at_ + 1) (rowsK (l.drop at_))) at_ [k.enc] = rowsK (l.take at_ ++ k :: l.drop at_) ++ (rowsK l ++ spare).drop (at_ + 1 + (rowsK (l.drop at_)).length) := by
    rw [spl, e1, List.length_singleton, e2, rows_app, rows_cons]; simp
  rw [e3, List.take_append_of_le_length (by rw [rowsK_len]; simp; omega), List.take_of_length_le (by rw [rowsK_len]; simp; omega)]
theorem T38mid (l : List Kept) (k : Kept) (at_ n c id : Nat) (spare : List (List AC)) (H : List Blk) (hid : H[id]? = some (.arr 26 7 (rowsK l ++ spare))) (hl : l.length = n) (hc : n + spare.length = c) (hn : n ≤ 1000000) (hat : at_ < n) : RunsQ Try.prog 38 [.c (.sl id 7 0 n c), .c (.int .i64 at_), .c (.list 0 7 [k.enc])] H fun r H' =>
    r = .c (.list 0 7 (rowsK (l.take at_ ++ k :: l.drop at_))) ∧ ∃ b, H' = H.set id b := by
  have hlen : (rowsK l ++ spare).length = c := by rw [List.length_append, rowsK_len]; omega
  have hlt : id < H.length := (List.getElem?_eq_some_iff.1 hid).1
  refine RunsQ.norm ?_
  refine Q38 (by simp) ?_
  generalize hF : FinQ rs38 H _ = F
  have f1 : ((at_ : Int) = (n : Int)) = False := eq_false (by omega)
  by_cases hroom : n + 1 ≤ c
  · have f2 : ((c : Int) < (n : Int) + 1) = False := eq_false (by omega)
    have f3 : (c = at_) = False := eq_false (by omega)
    have f4 : (c = at_ + 1) = False := eq_false (by omega)
    have f5 : ((n : Int) + 1).toNat = n + 1 := by omega
    have f6 : ((at_ : Int) + 1).toNat = at_ + 1 := by omega
    have g1 : (List.take (n + 1 - at_) (List.drop at_ (rowsK l ++ spare))).length = n + 1 - at_ := by rw [List.length_take, List.length_drop, hlen]; omega
    have g2 : (n + 1 - at_ ≤ n + 1 - (at_ + 1)) = False := eq_false (by omega)
    have g3 : ((List.take (n + 1 - at_) (List.drop at_ (rowsK l ++ spare))).take (n + 1 - (at_ + 1))) = rowsK (l.drop at_) := by
      have := mid_src l spare at_ (n + 1 - at_) (by omega) (by omega)
      rw [hl] at this; rw [show n + 1 - (at_ + 1) = n - at_ by omega]; exact this
    have h2 : (rowsK (l.drop at_)).length = n - at_ := by rw [rowsK_len, List.length_drop, hl]
    have w1 : (spl (rowsK l ++ spare) (at_ + 1) (rowsK (l.drop at_))).length = c := by rw [spl_len _ _ _ (by omega), hlen]
    have w2 : (spl (spl (rowsK l ++ spare) (at_ + 1) (rowsK (l.drop at_))) at_ [k.enc]).length = c := by rw [spl_len _ _ _ (by simp; omega), w1]
    have hg : ∀ X, (H.set id (.arr 26 7 X))[id]? = some (.arr 26 7 X) := fun X => List.getElem?_set_self hlt
    have he := mid_end l k spare at_ (by omega) (by omega)
    rw [hl] at he
    have q1 : at_ + 1 + (n + 1 - (at_ + 1)) ≤ c := by omega
    have q2 : at_ + 1 ≤ c := by omega
    simp -implicitDefEqProofs (disch := omega) only [i38_0, i38_1, i38_2, i38_3, i38_4, i38_5, i38_6, i38_7, i38_8, i38_9, i38_10, i38_11, i38_12, i38_13, i38_14, i38_15, i38_16, i38_17, i38_18, i38_19, i38_20, i38, Int.natCast_one, hid, hroom, hlen, setD_mk, f1, f2, f3, f4, f5, f6, g1, g2, g3, w1, w2, hg, he, set_same, ovl44, q1, q2, zS, State.step, State.pure, State.pure.capsOf, arrGo, State.ghosts, State.ghost, State.srcRows, State.arrRows, State.pure.fillC, State.bound, State.rd, takeC, args0, State.res, State.res1, State.resS, State.resL, normS, AC.pure, splice, ↓reduceIte, Nat.reduceEqDiff, Nat.reduceLT, Nat.reduceLeDiff, Nat.reduceAdd, Nat.reduceSub, Nat.reduceMul, Int.reduceLE, Int.reduceLT, Int.reduceToNat, Int.reduceEq, Int.reduceNe, Int.reduceAdd, Int.reduceMul, Int.reducePow, Int.reduceNeg, Nat.reduceBEq, Int.reduceBNe, Int.reduceBEq, reduceCtorEq, ne_eq, IntWalk.iteOmega]
    subst hF
    refine ⟨.c (.list 0 7 _), H.set id .dead, ⟨rfl, .dead, rfl⟩, not_x_r, H.length, (List.take_of_length_le (by simp)).symm, by simp, by simp, .inr rfl, .inl ?_, Below_set hlt⟩
    simp only [rs38, zS, State.step, State.pure, State.pure.capsOf, arrGo, State.ghosts, State.ghost, State.srcRows, State.arrRows, State.pure.fillC, State.bound, State.rd, takeC, args0, State.res, State.res1, State.resS, State.resL, normS, AC.pure, splice, ↓reduceIte, Nat.reduceEqDiff, Nat.reduceLT, Nat.reduceLeDiff, Nat.reduceAdd, Nat.reduceSub, Nat.reduceMul, Int.reduceLE, Int.reduceLT, Int.reduceToNat, Int.reduceEq, Int.reduceNe, Int.reduceAdd, Int.reduceMul, Int.reducePow, Int.reduceNeg, Nat.reduceBEq, Int.reduceBNe, Int.reduceBEq, reduceCtorEq, ne_eq, IntWalk.iteOmega]
  · obtain rfl : c = n := by omega
    obtain rfl : spare = [] := List.eq_nil_of_length_eq_zero (by omega)
    simp only [List.append_nil] at hid hlen
    have f2 : ((c : Int) < (c : Int) + 1) = True := eq_true (by omega)
    have f3 : (c = 0) = False := eq_false (by omega)
    have f4 : ((c : Int) + 1 - (at_ : Int)) = ((c + 1 - at_ : Nat) : Int) := by omega
    have f5 : ((at_ : Int) + 1).toNat = at_ + 1 := by omega
    have q0 : at_ + (c + 1 - at_) = c + 1 := by omega
    have q4 : c + 1 - (at_ + 1) = c - at_ := by omega
    have q5 : at_ + (c - at_) = c := by omega
    have h1 : (rowsK l).length = c := hlen
    have hA : ∀ N z, (List.take at_ (rowsK l) ++ List.replicate N z).length = at_ + N := fun N z => by rw [List.length_append, List.length_take, List.length_replicate, h1]; omega
    have hA2 : ∀ N z, (spl (List.take at_ (rowsK l) ++ List.replicate (c + 1 - at_ + N) z) at_ [k.enc]).length = c + 1 + N := fun N z => by rw [spl_len _ _ _ (by rw [hA]; simp; omega), hA]; omega
    have hb : ∀ b, (H ++ [b])[id]? = some (.arr 26 7 (rowsK l)) := fun b => by rw [List.getElem?_append_left hlt, hid]
    have hD : List.take (c - at_) (List.drop at_ (rowsK l)) = rowsK (l.drop at_) := by
      rw [List.take_of_length_le (by rw [List.length_drop]; omega)]; simp [rowsK]
    have h2 : (rowsK (l.drop at_)).length = c - at_ := by rw [rowsK_len, List.length_drop, hl]
    have hA3 : ∀ N z, (spl (spl (List.take at_ (rowsK l) ++ List.replicate (c + 1 - at_ + N) z) at_ [k.enc]) (at_ + 1) (rowsK (l.drop at_))).length = c + 1 + N := fun N z => by rw [spl_len _ _ _ (by rw [hA2]; omega), hA2]
    have hE : ∀ N z, (spl (spl (List.take at_ (rowsK l) ++ List.replicate (c + 1 - at_ + N) z) at_ [k.enc]) (at_ + 1) (rowsK (l.drop at_))).take (c + 1) = rowsK (l.take at_ ++ k :: l.drop at_) := fun N z => by
      have e1 : (rowsK l).take at_ = rowsK (l.take at_) := by simp [rowsK]
      have e2 : (rowsK (l.take at_)).length = at_ := by rw [rowsK_len, List.length_take]; omega
      have e3 : (spl (List.take at_ (rowsK l) ++ List.replicate (c + 1 - at_ + N) z) at_ [k.enc]) = rowsK (l.take at_) ++ [k.enc] ++ List.replicate (c - at_ + N) z := by
        unfold spl
        rw [e1, List.take_append_of_le_length (by omega), List.take_of_length_le (by omega), List.drop_append, List.drop_of_length_le (by simp; omega), e2]
        simp; omega
      have e4 : (rowsK (l.take at_) ++ [k.enc]).length = at_ + 1 := by rw [List.length_append, e2]; rfl
      have e5 : (rowsK (l.take at_) ++ [k.enc] ++ List.replicate (c - at_ + N) z).take (at_ + 1) = rowsK (l.take at_) ++ [k.enc] := by
        rw [List.take_append_of_le_length (by omega), List.take_of_length_le (by omega)]
      have e6 : (rowsK (l.take at_) ++ [k.enc] ++ rowsK (l.drop at_)).length = c + 1 := by rw [List.length_append, e4, h2]; omega
      rw [e3, spl, e5, List.take_append_of_le_length (by omega), List.take_of_length_le (by omega), rows_app, rows_cons]; simp
    have hT : List.take (c - at_) (rowsK (l.drop at_)) = rowsK (l.drop at_) := List.take_of_length_le (by omega)
    have r8 : (at_ ≤ c) = True := eq_true (by omega)
    have r1 : ((0 : Int) < ((c + 1 - at_ : Nat) : Int)) = True := eq_true (by omega)
    have r2 : ∀ N, (at_ + 1 ≤ at_ + (c + 1 - at_ + N)) = True := fun N => eq_true (by omega)
    have r3 : (c < c + 1) = True := eq_true (by omega)
    have r4 : ∀ N, (at_ + 1 + (c - at_) ≤ c + 1 + N) = True := fun N => eq_true (by omega)
    have r5 : ∀ N, (c + 1 ≤ c + 1 + N) = True := fun N => eq_true (by omega)
    have r6 : ((c + 1) * 64 ≤ 140737488355328) = True := eq_true (by omega)
    have r7 : (c + 1 ≤ 9223372036854775807) = True := eq_true (by omega)
    simp -implicitDefEqProofs (disch := omega) only [i38_0, i38_1, i38_2, i38_3, i38_4, i38_5, i38_6, i38_7, i38_8, i38_9, i38_10, i38_11, i38_12, i38_13, i38_14, i38_15, i38_16, i38_17, i38_18, i38_19, i38_20, i38, Int.natCast_one, hid, hlen, setD_mk, f1, f2, f3, f4, f5, q0, q4, q5, hA, hA2, hA3, hb, hD, h2, hE, hT, r1, r2, r3, r4, r5, r6, r7, r8, zS, State.step, State.pure, State.pure.capsOf, arrGo, State.ghosts, State.ghost, State.srcRows, State.arrRows, State.pure.fillC, State.bound, State.rd, takeC, args0, State.res, State.res1, State.resS, State.resL, normS, AC.pure, splice, ↓reduceIte, Nat.reduceEqDiff, Nat.reduceLT, Nat.reduceLeDiff, Nat.reduceAdd, Nat.reduceSub, Nat.reduceMul, Int.reduceLE, Int.reduceLT, Int.reduceToNat, Int.reduceEq, Int.reduceNe, Int.reduceAdd, Int.reduceMul, Int.reducePow, Int.reduceNeg, Nat.reduceBEq, Int.reduceBNe, Int.reduceBEq, reduceCtorEq, ne_eq, IntWalk.iteOmega]
    intro extra
    subst hF
    refine ⟨.c (.list 0 7 _), H, ⟨rfl, _, (set_self' hid).symm⟩, not_x_r, H.length, by simp, by simp, by simp, .inr rfl, .inl ?_, fun id b hb => .inl hb⟩
    simp only [rs38, zS, State.step, State.pure, State.pure.capsOf, arrGo, State.ghosts, State.ghost, State.srcRows, State.arrRows, State.pure.fillC, State.bound, State.rd, takeC, args0, State.res, State.res1, State.resS, State.resL, normS, AC.pure, splice, ↓reduceIte, Nat.reduceEqDiff, Nat.reduceLT, Nat.reduceLeDiff, Nat.reduceAdd, Nat.reduceSub, Nat.reduceMul, Int.reduceLE, Int.reduceLT, Int.reduceToNat, Int.reduceEq, Int.reduceNe, Int.reduceAdd, Int.reduceMul, Int.reducePow, Int.reduceNeg, Nat.reduceBEq, Int.reduceBNe, Int.reduceBEq, reduceCtorEq, ne_eq, IntWalk.iteOmega]
theorem T38 (l : List Kept) (k : Kept) (at_ c id : Nat) (spare : List (List AC)) (H : List Blk) (hid : H[id]? = some (.arr 26 7 (rowsK l ++ spare))) (hc : l.length + spare.length = c) (hn : l.length ≤ 1000000) (hat : at_ ≤ l.length) : RunsQ Try.prog 38 [.c (.sl id 7 0 l.length c), .c (.int .i64 at_), .c (.list 0 7 [k.enc])] H fun r H' =>
    r = .c (.list 0 7 (rowsK (l.take at_ ++ k :: l.drop at_))) ∧ ∃ b, H' = H.set id b := by
  by_cases h : at_ = l.length
  · subst h; exact T38end l k _ c id spare H hid rfl hc hn
  · exact T38mid l k at_ _ c id spare H hid rfl hc hn (by omega)
/-- .. into an empty slice without room. -/
theorem T38e (k : Kept) (H : List Blk) : RunsQ Try.prog 38 [.c (.list 1 7 []), .c (.int .i64 0), .c (.list 0 7 [k.enc])] H fun r H' => r = .c (.list 0 7 (rowsK [k])) ∧ H' = H := by
  refine RunsQ.norm ?_
  refine Q38e (by simp) ?_
  generalize hF : FinQ rs38e H _ = F
  simp -implicitDefEqProofs (disch := omega) only [i38e_0, i38e_1, i38e_2, i38e_3, i38e_4, i38e_5, i38e_6, i38e_7, i38e_8, i38e_9, i38e_10, i38e_11, i38e_12, i38e_13, i38e_14, i38e_15, i38e_16, i38e_17, i38e_18, i38e_19, i38e_20, i38e, Int.natCast_one, Int.natCast_zero, setD_mk, zS, State.step, State.pure, State.pure.capsOf, arrGo, State.ghosts, State.ghost, State.srcRows, State.arrRows, State.pure.fillC, State.bound, State.rd, takeC, args0, State.res, State.res1, State.resS, State.resL, normS, AC.pure, splice, ↓reduceIte, Nat.reduceEqDiff, Nat.reduceLT, Nat.reduceLeDiff, Nat.reduceAdd, Nat.reduceSub, Nat.reduceMul, Int.reduceLE, Int.reduceLT, Int.reduceToNat, Int.reduceEq, Int.reduceNe, Int.reduceAdd, Int.reduceMul, Int.reducePow, Int.reduceNeg, Nat.reduceBEq, Int.reduceBNe, Int.reduceBEq, reduceCtorEq, ne_eq, IntWalk.iteOmega]
  subst hF
  refine ⟨.c (.list 2 7 _), H, ⟨rfl, rfl⟩, not_x_r, H.length, by simp, by simp, by simp, .inr rfl, .inl ?_, fun id b hb => .inl hb⟩
  simp only [rs38e, zS, State.step, State.pure, State.pure.capsOf, arrGo, State.ghosts, State.ghost, State.srcRows, State.arrRows, State.pure.fillC, State.bound, State.rd, takeC, args0, State.res, State.res1, State.resS, State.resL, normS, AC.pure, splice, ↓reduceIte, Nat.reduceEqDiff, Nat.reduceLT, Nat.reduceLeDiff, Nat.reduceAdd, Nat.reduceSub, Nat.reduceMul, Int.reduceLE, Int.reduceLT, Int.reduceToNat, Int.reduceEq, Int.reduceNe, Int.reduceAdd, Int.reduceMul, Int.reducePow, Int.reduceNeg, Nat.reduceBEq, Int.reduceBNe, Int.reduceBEq, reduceCtorEq, ne_eq, IntWalk.iteOmega]
  rfl
end Go.Proofs.Ytimapebigcmbmaa
