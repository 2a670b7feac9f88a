/- A part of the proofs: a verified symbolic execution of Go's code, and what each function of the program computes; no conditions of its own. -/
import Derived.Test.YtimapebigcmbmaaL5

set_option linter.unusedVariables false
set_option linter.unusedSimpArgs false
namespace Go.Proofs.Ytimapebigcmbmaa
open Go Go.AI Go.Proofs

/-! ### What was put last -/
def lastF (o c : Int) : List Kept → Nat → Option Nat → Option Nat
  | [], _, b => b
  | k :: l, i, b => lastF o c l (i + 1) (if Key o c k then some i else b)
theorem lastF_app (o c : Int) (k : Kept) : ∀ (l : List Kept) (i : Nat) (b : Option Nat), lastF o c (l ++ [k]) i b = if Key o c k then some (i + l.length) else lastF o c l i b := by
  intro l
  induction l with
  | nil => intro i b; simp [lastF]
  | cons x l ih =>
    intro i b
    rw [List.cons_append, lastF, ih, lastF]
    simp only [List.length_cons]
    split
    · congr 1; omega
    · rfl
def Put1 (pl : List Kept) (x : Kept) : Prop := ∃ i y, lastF x.object x.chunk pl 0 none = some i ∧ pl[i]? = some y ∧ y.bytes = x.bytes ∧ y.since = x.since ∧ y.last = x.last
def FreshAll (c : Cache) (pl : List Kept) : Prop := ∀ x ∈ c.items, Put1 pl x
def put' (pl : List Kept) (c : Cache) (o : Op) : List Kept := if (doM c o).e = 0 ∧ o.kind.tmod 4 = 1 then pl ++ [o.k] else pl
theorem Put1.keep {pl : List Kept} {x k : Kept} (h : Put1 pl x) (hk : ¬ SameKey x k) : Put1 (pl ++ [k]) x := by
  obtain ⟨i, y, h1, h2, h3⟩ := h
  have hn : ¬ Key x.object x.chunk k := by unfold Key; unfold SameKey at hk; omega
  refine ⟨i, y, by rw [lastF_app, if_neg hn]; exact h1, ?_, h3⟩
  rw [List.getElem?_append_left (List.getElem?_eq_some_iff.1 h2).1]; exact h2
theorem Put1.new (pl : List Kept) (k : Kept) (t : Int) : Put1 (pl ++ [k]) { k with used := t } := by
  refine ⟨pl.length, k, ?_, by simp, rfl, rfl, rfl⟩
  rw [lastF_app, if_pos (by unfold Key; exact ⟨rfl, rfl⟩)]; simp
theorem fresh_step {c : Cache} {pl : List Kept} {o : Op} {n : Nat} (hi : Inv c n) (h : FreshAll c pl) (hk0 : 0 ≤ o.kind) : FreshAll (doM c o).c (put' pl c o) := by
  by_cases he : (doM c o).e = 0
  · have hc := good_check hi.good
    intro x hx
    unfold put'
    unfold doM at hx he ⊢
    by_cases h0 : o.kind.tmod 4 = 0
    · rw [if_neg (by omega)]
      rw [if_pos h0] at hx he
      simp only [refTick, tick] at hx he
      rw [if_neg (by simpa using hc)] at hx he
      split at he
      · cases he
      · rename_i h1; rw [if_neg h1] at hx
        split at he
        · cases he
        · rename_i h2; rw [if_neg h2] at hx
          exact h x (List.mem_filter.1 hx).1
    · rw [if_neg h0] at hx he ⊢
      by_cases h1 : o.kind.tmod 4 = 1
      · rw [if_pos h1] at hx he
        rw [if_pos h1, if_pos ⟨he, h1⟩]
        simp only [refPut, put] at hx he
        rw [if_neg (by simpa using hc)] at hx he
        split at he
        · cases he
        rename_i e1; rw [if_neg e1] at hx
        split at he
        · cases he
        rename_i e2; rw [if_neg e2] at hx
        split at he
        · cases he
        rename_i e3; rw [if_neg e3] at hx
        split at he
        · cases he
        rename_i e4; rw [if_neg e4] at hx
        have hm := (evict_perm c.room (now' c o.k) (putL (now' c o.k) c.items).length (putL (now' c o.k) c.items)).1.subset hx
        rcases putL_mem hi.good.sorted hm with rfl | ⟨hm, hsk⟩
        · exact Put1.new pl o.k c.now
        · exact (h x hm).keep hsk
      · rw [if_neg h1] at hx he ⊢
        rw [if_neg (by omega)]
        by_cases h2 : o.kind.tmod 4 = 2
        · rw [if_pos h2] at hx he
          simp only [refGet, get] at hx he
          rw [if_neg (by simpa using hc)] at hx he
          cases hidx : idx o.k.object o.k.chunk c.items with
          | none => rw [hidx] at he; cases he
          | some i =>
            rw [hidx] at hx he
            simp only at hx he
            cases hxi : c.items[i]? with
            | none => rw [hxi] at he; cases he
            | some z =>
              rw [hxi] at hx he
              simp only at hx he
              split at he
              · cases he
              rename_i e1; rw [if_neg e1] at hx
              rcases mem_set hx with rfl | hm
              · exact h z (List.mem_of_getElem? hxi)
              · exact h x hm
        · rw [if_neg h2] at hx he
          simp only [refForget, forget] at hx he
          rw [if_neg (by simpa using hc)] at hx he
          exact h x (List.mem_filter.1 hx).1
  · rw [doM_err he]
    have : put' pl c o = pl := by unfold put'; rw [if_neg (fun q => he q.1)]
    rw [this]; exact h
/-- A reading finds what was put last. -/
theorem fresh_get {c : Cache} {pl : List Kept} {o : Op} {n : Nat} (hi : Inv c n) (h : FreshAll c pl) (h2 : o.kind.tmod 4 = 2) (he : (doM c o).e = 0) :
    (doM c o).c.now = c.now ∧ ∃ i y, lastF o.k.object o.k.chunk pl 0 none = some i ∧ pl[i]? = some y ∧ y.bytes = (doM c o).s ∧ c.now - y.since ≤ o.n ∧ c.now ≤ y.last ∧ 0 ≤ y.since ∧ y.since ≤ 1000000 := by
  have hc := good_check hi.good
  unfold doM at he ⊢
  rw [if_neg (by omega), if_neg (by omega), if_pos h2] at he ⊢
  simp only [refGet, get] at he ⊢
  rw [if_neg (by simpa using hc)] at he ⊢
  cases hidx : idx o.k.object o.k.chunk c.items with
  | none => rw [hidx] at he; cases he
  | some i =>
    rw [hidx] at he
    simp only at he ⊢
    cases hxi : c.items[i]? with
    | none => rw [hxi] at he; cases he
    | some z =>
      rw [hxi] at he
      simp only at he ⊢
      split at he
      · cases he
      rename_i e1; rw [if_neg e1]
      obtain ⟨z', hz', hkey⟩ := idx_some hidx
      rw [hxi] at hz'; obtain rfl := Option.some.inj hz'
      obtain ⟨j, y, q1, q2, q3, q4, q5⟩ := h z (List.mem_of_getElem? hxi)
      have hr := hi.good.right z (List.mem_of_getElem? hxi)
      have hn := hi.good.now
      obtain ⟨r1, r2, r3, r4⟩ := hr
      unfold Right at r1
      unfold Key at hkey
      rw [hkey.1, hkey.2] at q1
      exact ⟨rfl, j, y, q1, q2, q3, by omega, by omega, by omega, by omega⟩
/-- An older version is not put. -/
theorem stale_put {c : Cache} {k : Kept} {i : Nat} {x : Kept} (hidx : idx k.object k.chunk c.items = some i) (hx : c.items[i]? = some x) (hv : k.version < x.version) : (put c k).2.2 ≠ 0 := by
  have hs : isStale c.items k = true := by
    unfold isStale; rw [hidx]; simp only [hx]; simp [stale, hv]
  unfold put
  split
  · assumption
  split
  · simp
  split
  · simp
  · simp [hs]
end Go.Proofs.Ytimapebigcmbmaa

set_option linter.unusedVariables false
set_option linter.unusedSimpArgs false
namespace Go.Proofs.Ytimapebigcmbmaa
open Go Go.AI Go.Proofs

def i6_R : IR := .seq (.region i6_13 [68, 78, 79, 80, 81]) (.seq (.region i6_14 [82, 83]) (.seq (.seq (.region i6_15 [84, 85]) (.cond (.t 86) (.exit 1) .skip)) (.seq (.seq (.region i6_16 [86, 87, 88, 89]) (.cond (.t 90) (.region i6_17 [90, 91, 92, 93, 94, 95]) .skip)) (.seq (.region i6_18 [90, 96, 97, 98]) (.cond (.t 99) (.seq (.region i6_19 [99]) (.seq (.seq (.region i6_20 []) (.block 2 (.loop [] i6_L0))) i6_K0)) .skip)))))
theorem i6_L1e : i6_L1 = .seq (.seq (.region i6_6 [30, 31, 32]) (.cond (.t 33) .skip (.exit 0))) (.seq (.block 1 (.seq (.region i6_7 [33, 36, 37, 38, 39]) (.seq (.region i6_8 [40, 41, 42, 43, 44, 45, 46, 47, 48]) (.seq (.seq (.region i6_9 [10, 49, 50, 51, 52, 53, 54, 55, 56, 57, 58, 59, 60, 61, 62, 63, 64, 65, 66, 67]) (.cond (.t 68) (.seq (.region i6_10 [11, 12, 68, 69, 70, 71, 72, 73, 74, 75, 76]) (.seq (.region i6_11 [13, 77]) (.cond (.t 78) (.seq (.region i6_12 [1, 5, 7, 8, 9, 78]) .ret) .skip))) .skip)) i6_R)))) i6_K1) := rfl
theorem L6i (room : Int) (all : List Op) (m : Nat) (o : Op) (pl : List Kept) (lv id : Nat) (a14 : AV) (Y : List Blk) (hY : Y[id]? = some (.cells o.enc)) (hlv : lv = 1 ∨ lv = 2) (hpl : pl.length ≤ 1000) (R : Option Nat) (K : AX → State → Prop)
    (hK : K (.x 2) ⟨[(1, .c (.list 0 9 (rowsO all))), (5, .c (.ptr (some (0, 0)))), (7, .c (.list lv 7 (rowsK pl))), (8, .c (.int .i64 m)), (9, .c (.ptr (some (id, 0)))), (14, a14), (15, .c (.int .i64 (idxI R))), (16, .c (.int .i64 pl.length)), (103, .c (.bool false))], Y⟩) :
    ∀ (post pre : List Kept) (b : Option Nat), pre ++ post = pl → lastF o.k.object o.k.chunk post pre.length b = R →
    (IR.loop [] i6_L0).go Try.prog ⟨[(1, .c (.list 0 9 (rowsO all))), (5, .c (.ptr (some (0, 0)))), (7, .c (.list lv 7 (rowsK pl))), (8, .c (.int .i64 m)), (9, .c (.ptr (some (id, 0)))), (14, a14), (15, .c (.int .i64 (idxI b))), (16, .c (.int .i64 pre.length))], Y⟩ K := by
  simp only [Op.enc] at hY
  intro post
  induction post with
  | nil =>
    intro pre b hp hb
    obtain rfl : pre = pl := by simpa using hp
    obtain rfl : b = R := hb
    refine go_loop fun L hL => ?_
    rcases hlv with rfl | rfl <;> (simp -implicitDefEqProofs (disch := omega) only [i6_0, i6_1, i6_2, i6_3, i6_4, i6_5, i6_6, i6_7, i6_8, i6_9, i6_10, i6_11, i6_12, i6_13, i6_14, i6_15, i6_16, i6_17, i6_18, i6_19, i6_20, i6_21, i6_22, i6_23, i6_24, i6_25, i6_26, i6_27, i6_28, i6_K0, i6_K1, i6_K2, i6, i6_L0, rowsK_len, zS, State.step, State.pure, State.pure.capsOf, arrGo, State.ghosts, State.ghost, State.srcRows, State.arrRows, State.pure.fillC, State.bound, State.rd, takeC, args0, State.res, State.res1, State.resS, State.resL, normS, AC.pure, splice, ↓reduceIte, Nat.reduceEqDiff, Nat.reduceLT, Nat.reduceLeDiff, Nat.reduceAdd, Nat.reduceSub, Nat.reduceMul, Int.reduceLE, Int.reduceLT, Int.reduceToNat, Int.reduceEq, Int.reduceNe, Int.reduceAdd, Int.reduceMul, Int.reducePow, Int.reduceNeg, Nat.reduceBEq, Int.reduceBNe, Int.reduceBEq, reduceCtorEq, ne_eq, IntWalk.iteOmega]; rw [hL]; exact hK)
  | cons x post ih =>
    intro pre b hp hb
    have ih := ih (pre ++ [x]) (if Key o.k.object o.k.chunk x then some pre.length else b) (by rw [← hp]; simp) (by simpa [lastF] using hb)
    simp only [List.length_append, List.length_cons, List.length_nil, Nat.zero_add] at ih
    have hget := row_at hp
    have hlt : (pre.length : Int) < pl.length := by rw [← hp]; simp; omega
    have hkey : Key o.k.object o.k.chunk x ↔ x.object = o.k.object ∧ x.chunk = o.k.chunk := Iff.rfl
    clear hK hb
    by_cases c1 : x.object = o.k.object
    · have q1 : (x.object = o.k.object) = True := eq_true c1
      by_cases c2 : x.chunk = o.k.chunk
      · have q2 : (x.chunk = o.k.chunk) = True := eq_true c2
        rw [if_pos (hkey.2 ⟨c1, c2⟩)] at ih
        clear hkey
        refine go_loop fun L hL => ?_
        rcases hlv with rfl | rfl <;> (simp -implicitDefEqProofs (disch := omega) only [i6_0, i6_1, i6_2, i6_3, i6_4, i6_5, i6_6, i6_7, i6_8, i6_9, i6_10, i6_11, i6_12, i6_13, i6_14, i6_15, i6_16, i6_17, i6_18, i6_19, i6_20, i6_21, i6_22, i6_23, i6_24, i6_25, i6_26, i6_27, i6_28, i6_K0, i6_K1, i6_K2, i6, i6_L0, hlt, hget, rowsK_len, Kept.enc, hY, q1, q2, zS, State.step, State.pure, State.pure.capsOf, arrGo, State.ghosts, State.ghost, State.srcRows, State.arrRows, State.pure.fillC, State.bound, State.rd, takeC, args0, State.res, State.res1, State.resS, State.resL, normS, AC.pure, splice, ↓reduceIte, Nat.reduceEqDiff, Nat.reduceLT, Nat.reduceLeDiff, Nat.reduceAdd, Nat.reduceSub, Nat.reduceMul, Int.reduceLE, Int.reduceLT, Int.reduceToNat, Int.reduceEq, Int.reduceNe, Int.reduceAdd, Int.reduceMul, Int.reducePow, Int.reduceNeg, Nat.reduceBEq, Int.reduceBNe, Int.reduceBEq, reduceCtorEq, ne_eq, IntWalk.iteOmega]; rw [hL]; exact ih)
      · have q2 : (x.chunk = o.k.chunk) = False := eq_false c2
        rw [if_neg (fun q => c2 (hkey.1 q).2)] at ih
        clear hkey
        refine go_loop fun L hL => ?_
        rcases hlv with rfl | rfl <;> (simp -implicitDefEqProofs (disch := omega) only [i6_0, i6_1, i6_2, i6_3, i6_4, i6_5, i6_6, i6_7, i6_8, i6_9, i6_10, i6_11, i6_12, i6_13, i6_14, i6_15, i6_16, i6_17, i6_18, i6_19, i6_20, i6_21, i6_22, i6_23, i6_24, i6_25, i6_26, i6_27, i6_28, i6_K0, i6_K1, i6_K2, i6, i6_L0, hlt, hget, rowsK_len, Kept.enc, hY, q1, q2, zS, State.step, State.pure, State.pure.capsOf, arrGo, State.ghosts, State.ghost, State.srcRows, State.arrRows, State.pure.fillC, State.bound, State.rd, takeC, args0, State.res, State.res1, State.resS, State.resL, normS, AC.pure, splice, ↓reduceIte, Nat.reduceEqDiff, Nat.reduceLT, Nat.reduceLeDiff, Nat.reduceAdd, Nat.reduceSub, Nat.reduceMul, Int.reduceLE, Int.reduceLT, Int.reduceToNat, Int.reduceEq, Int.reduceNe, Int.reduceAdd, Int.reduceMul, Int.reducePow, Int.reduceNeg, Nat.reduceBEq, Int.reduceBNe, Int.reduceBEq, reduceCtorEq, ne_eq, IntWalk.iteOmega]; rw [hL]; exact ih)
    · have q1 : (x.object = o.k.object) = False := eq_false c1
      rw [if_neg (fun q => c1 (hkey.1 q).1)] at ih
      clear hkey
      refine go_loop fun L hL => ?_
      rcases hlv with rfl | rfl <;> (simp -implicitDefEqProofs (disch := omega) only [i6_0, i6_1, i6_2, i6_3, i6_4, i6_5, i6_6, i6_7, i6_8, i6_9, i6_10, i6_11, i6_12, i6_13, i6_14, i6_15, i6_16, i6_17, i6_18, i6_19, i6_20, i6_21, i6_22, i6_23, i6_24, i6_25, i6_26, i6_27, i6_28, i6_K0, i6_K1, i6_K2, i6, i6_L0, hlt, hget, rowsK_len, Kept.enc, hY, q1, zS, State.step, State.pure, State.pure.capsOf, arrGo, State.ghosts, State.ghost, State.srcRows, State.arrRows, State.pure.fillC, State.bound, State.rd, takeC, args0, State.res, State.res1, State.resS, State.resL, normS, AC.pure, splice, ↓reduceIte, Nat.reduceEqDiff, Nat.reduceLT, Nat.reduceLeDiff, Nat.reduceAdd, Nat.reduceSub, Nat.reduceMul, Int.reduceLE, Int.reduceLT, Int.reduceToNat, Int.reduceEq, Int.reduceNe, Int.reduceAdd, Int.reduceMul, Int.reducePow, Int.reduceNeg, Nat.reduceBEq, Int.reduceBNe, Int.reduceBEq, reduceCtorEq, ne_eq, IntWalk.iteOmega]; rw [hL]; exact ih)
set_option maxHeartbeats 2000000 in
theorem S6 (room : Int) (all : List Op) (m n : Nat) (o : Op) (c : Cache) (pl : List Kept) (lv : Nat) (X : List Blk) (j : Nat) (hi : Inv c n) (hn : n ≤ 1000) (hf : FreshAll c pl) (hoo : o.Ok) (hX : X[j]? = some (.cells o.enc)) (hlv : lv = 1 ∨ lv = 2) (hpl : pl.length ≤ 1000) (t68 : Nat) (ht68 : t68 = 68 ∨ t68 = 78) (K : AX → State → Prop)
    (hK1 : ∀ lv' X' a, lv' = 1 ∨ lv' = 2 → K .n ⟨[(1, .c (.list 0 9 (rowsO all))), (5, .c (.ptr (some (0, 0)))), (7, .c (.list lv' 7 (rowsK (put' pl c o)))), (8, .c (.int .i64 m)), (9, .c (.ptr (some (j + 1, 0)))), (14, a), (99, .c (.bool false))], .cells (doM c o).c.enc :: X'⟩)
    (hK2 : ∀ lv' X', lv' = 1 ∨ lv' = 2 → K .n ⟨[(1, .c (.list 0 9 (rowsO all))), (5, .c (.ptr (some (0, 0)))), (7, .c (.list lv' 7 (rowsK (put' pl c o)))), (8, .c (.int .i64 m)), (161, .c (.bool false))], .cells (doM c o).c.enc :: X'⟩)
    (hK3 : ∀ lv' X' a, lv' = 1 ∨ lv' = 2 → K (.x 1) ⟨[(1, .c (.list 0 9 (rowsO all))), (5, .c (.ptr (some (0, 0)))), (7, .c (.list lv' 7 (rowsK (put' pl c o)))), (8, .c (.int .i64 m)), (9, .c (.ptr (some (j + 1, 0)))), (14, a), (86, .c (.bool true))], .cells (doM c o).c.enc :: X'⟩) :
    i6_R.go Try.prog ⟨[(1, .c (.list 0 9 (rowsO all))), (5, .c (.ptr (some (0, 0)))), (7, .c (.list lv 7 (rowsK pl))), (8, .c (.int .i64 m)), (9, .c (.ptr (some (j + 1, 0)))), (t68, .c (.bool false))], .cells c.enc :: X⟩ K := by
  have h16 := T16 c o (hi.toOk (by omega)) (by have := hi.len; omega) hoo
  have hX1 : ∀ B, (X ++ [B])[j]? = some (.cells o.enc) := fun B => by rw [List.getElem?_append_left (List.getElem?_eq_some_iff.1 hX).1]; exact hX
  have hget := fun h2 he => fresh_get (o := o) hi hf h2 he
  have hcn := hi.good.now
  have hput : put' pl c o = if (doM c o).e = 0 ∧ o.kind.tmod 4 = 1 then pl ++ [o.k] else pl := rfl
  obtain ⟨hk1, hk2⟩ := hoo.kind
  have hin := fun D R Y K hK => L6i room all m o pl lv (j + 1) (.c (.ptr (some (X.length + 1, 0)))) (.cells D :: (X ++ [Y])) (by simpa using hX1 Y) hlv hpl R K hK pl [] none rfl
  clear hi hf hoo
  generalize hD : doM c o = D at *
  generalize put' pl c o = P' at *
  simp only [Cache.enc, Op.enc] at *
  rcases ht68 with rfl | rfl
  all_goals
    simp -implicitDefEqProofs (disch := omega) only [i6_0, i6_1, i6_2, i6_3, i6_4, i6_5, i6_6, i6_7, i6_8, i6_9, i6_10, i6_11, i6_12, i6_13, i6_14, i6_15, i6_16, i6_17, i6_18, i6_19, i6_20, i6_21, i6_22, i6_23, i6_24, i6_25, i6_26, i6_27, i6_28, i6, i6_R, hX, zS, State.step, State.pure, State.pure.capsOf, arrGo, State.ghosts, State.ghost, State.srcRows, State.arrRows, State.pure.fillC, State.bound, State.rd, takeC, args0, State.res, State.res1, State.resS, State.resL, normS, AC.pure, splice, ↓reduceIte, Nat.reduceEqDiff, Nat.reduceLT, Nat.reduceLeDiff, Nat.reduceAdd, Nat.reduceSub, Nat.reduceMul, Int.reduceLE, Int.reduceLT, Int.reduceToNat, Int.reduceEq, Int.reduceNe, Int.reduceAdd, Int.reduceMul, Int.reducePow, Int.reduceNeg, Nat.reduceBEq, Int.reduceBNe, Int.reduceBEq, reduceCtorEq, ne_eq, IntWalk.iteOmega]
    refine call_pure h16 rfl rfl ?_
    simp -implicitDefEqProofs (disch := omega) only [i6_0, i6_1, i6_2, i6_3, i6_4, i6_5, i6_6, i6_7, i6_8, i6_9, i6_10, i6_11, i6_12, i6_13, i6_14, i6_15, i6_16, i6_17, i6_18, i6_19, i6_20, i6_21, i6_22, i6_23, i6_24, i6_25, i6_26, i6_27, i6_28, i6, i6_R, hX1, Made.enc, zS, State.step, State.pure, State.pure.capsOf, arrGo, State.ghosts, State.ghost, State.srcRows, State.arrRows, State.pure.fillC, State.bound, State.rd, takeC, args0, State.res, State.res1, State.resS, State.resL, normS, AC.pure, splice, ↓reduceIte, Nat.reduceEqDiff, Nat.reduceLT, Nat.reduceLeDiff, Nat.reduceAdd, Nat.reduceSub, Nat.reduceMul, Int.reduceLE, Int.reduceLT, Int.reduceToNat, Int.reduceEq, Int.reduceNe, Int.reduceAdd, Int.reduceMul, Int.reducePow, Int.reduceNeg, Nat.reduceBEq, Int.reduceBNe, Int.reduceBEq, reduceCtorEq, ne_eq, IntWalk.iteOmega]
    by_cases e : D.e = 0
    · have q0 : (D.e = 0) = True := eq_true e
      by_cases k1 : o.kind.tmod 4 = 1
      · have q1 : (o.kind.tmod 4 = 1) = True := eq_true k1
        have q2 : (o.kind.tmod 4 = 2) = False := eq_false (by omega)
        rw [if_pos ⟨e, k1⟩] at hput
        subst hput
        rcases hlv with rfl | rfl <;> simp -implicitDefEqProofs (disch := omega) only [i6_0, i6_1, i6_2, i6_3, i6_4, i6_5, i6_6, i6_7, i6_8, i6_9, i6_10, i6_11, i6_12, i6_13, i6_14, i6_15, i6_16, i6_17, i6_18, i6_19, i6_20, i6_21, i6_22, i6_23, i6_24, i6_25, i6_26, i6_27, i6_28, i6, hX1, q0, q1, q2, rowsK_len, zS, State.step, State.pure, State.pure.capsOf, arrGo, State.ghosts, State.ghost, State.srcRows, State.arrRows, State.pure.fillC, State.bound, State.rd, takeC, args0, State.res, State.res1, State.resS, State.resL, normS, AC.pure, splice, ↓reduceIte, Nat.reduceEqDiff, Nat.reduceLT, Nat.reduceLeDiff, Nat.reduceAdd, Nat.reduceSub, Nat.reduceMul, Int.reduceLE, Int.reduceLT, Int.reduceToNat, Int.reduceEq, Int.reduceNe, Int.reduceAdd, Int.reduceMul, Int.reducePow, Int.reduceNeg, Nat.reduceBEq, Int.reduceBNe, Int.reduceBEq, reduceCtorEq, ne_eq, IntWalk.iteOmega]
        · have := hK1 2 (X ++ [.cells (Made.enc D)]) (.c (.ptr (some (X.length + 1, 0)))) (.inr rfl)
          simpa only [rowsK, List.map_append, List.map_cons, List.map_nil, Kept.enc, Made.enc] using this
        · have := hK1 2 (X ++ [.cells (Made.enc D)]) (.c (.ptr (some (X.length + 1, 0)))) (.inr rfl)
          simpa only [rowsK, List.map_append, List.map_cons, List.map_nil, Kept.enc, Made.enc] using this
      · have q1 : (o.kind.tmod 4 = 1) = False := eq_false k1
        rw [if_neg (fun q => k1 q.2)] at hput
        subst hput
        by_cases k2 : o.kind.tmod 4 = 2
        · have q2 : (o.kind.tmod 4 = 2) = True := eq_true k2
          obtain ⟨g0, i, y, g1, g2, g3, g4, g5, g6, g7⟩ := hget k2 e
          simp -implicitDefEqProofs (disch := omega) only [i6_0, i6_1, i6_2, i6_3, i6_4, i6_5, i6_6, i6_7, i6_8, i6_9, i6_10, i6_11, i6_12, i6_13, i6_14, i6_15, i6_16, i6_17, i6_18, i6_19, i6_20, i6_21, i6_22, i6_23, i6_24, i6_25, i6_26, i6_27, i6_28, i6, hX1, q0, q1, q2, zS, State.step, State.pure, State.pure.capsOf, arrGo, State.ghosts, State.ghost, State.srcRows, State.arrRows, State.pure.fillC, State.bound, State.rd, takeC, args0, State.res, State.res1, State.resS, State.resL, normS, AC.pure, splice, ↓reduceIte, Nat.reduceEqDiff, Nat.reduceLT, Nat.reduceLeDiff, Nat.reduceAdd, Nat.reduceSub, Nat.reduceMul, Int.reduceLE, Int.reduceLT, Int.reduceToNat, Int.reduceEq, Int.reduceNe, Int.reduceAdd, Int.reduceMul, Int.reducePow, Int.reduceNeg, Nat.reduceBEq, Int.reduceBNe, Int.reduceBEq, reduceCtorEq, ne_eq, IntWalk.iteOmega]
          have hil : i < P'.length := (List.getElem?_eq_some_iff.1 g2).1
          have hgetR : (rowsK P')[i]? = some y.enc := by rw [rowsK_get P' i hil, ← (List.getElem?_eq_some_iff.1 g2).2]
          simp only [Kept.enc] at hgetR
          have r1 : (y.bytes = D.s) = True := eq_true g3
          have r2 : ¬ (o.n < D.c.now - y.since) := by omega
          have r3 : ¬ (y.last < D.c.now) := by omega
          have r4 : (i : Int) < (P'.length : Int) := by omega
          have r5 : -9223372036854775808 ≤ D.c.now - y.since ∧ D.c.now - y.since < 9223372036854775808 := by omega
          have r6 : IntKind.i64.wrap (D.c.now - y.since) = D.c.now - y.since := IntWalk.i64_in _ (by omega)
          have r7 : ¬ ((i : Int) < 0) := by omega
          refine hin _ (some i) _ _ ?_ g1
          rcases hlv with rfl | rfl <;> (simp -implicitDefEqProofs (disch := omega) only [i6_0, i6_1, i6_2, i6_3, i6_4, i6_5, i6_6, i6_7, i6_8, i6_9, i6_10, i6_11, i6_12, i6_13, i6_14, i6_15, i6_16, i6_17, i6_18, i6_19, i6_20, i6_21, i6_22, i6_23, i6_24, i6_25, i6_26, i6_27, i6_28, i6_K0, i6_K1, i6_K2, i6, hX1, hgetR, r1, r2, r3, r4, r6, r7, rowsK_len, idxI, zS, State.step, State.pure, State.pure.capsOf, arrGo, State.ghosts, State.ghost, State.srcRows, State.arrRows, State.pure.fillC, State.bound, State.rd, takeC, args0, State.res, State.res1, State.resS, State.resL, normS, AC.pure, splice, ↓reduceIte, Nat.reduceEqDiff, Nat.reduceLT, Nat.reduceLeDiff, Nat.reduceAdd, Nat.reduceSub, Nat.reduceMul, Int.reduceLE, Int.reduceLT, Int.reduceToNat, Int.reduceEq, Int.reduceNe, Int.reduceAdd, Int.reduceMul, Int.reducePow, Int.reduceNeg, Nat.reduceBEq, Int.reduceBNe, Int.reduceBEq, reduceCtorEq, ne_eq, IntWalk.iteOmega]; first | exact hK2 _ _ (.inl rfl) | exact hK2 _ _ (.inr rfl))
        · have q2 : (o.kind.tmod 4 = 2) = False := eq_false k2
          simp -implicitDefEqProofs (disch := omega) only [i6_0, i6_1, i6_2, i6_3, i6_4, i6_5, i6_6, i6_7, i6_8, i6_9, i6_10, i6_11, i6_12, i6_13, i6_14, i6_15, i6_16, i6_17, i6_18, i6_19, i6_20, i6_21, i6_22, i6_23, i6_24, i6_25, i6_26, i6_27, i6_28, i6, hX1, q0, q1, q2, zS, State.step, State.pure, State.pure.capsOf, arrGo, State.ghosts, State.ghost, State.srcRows, State.arrRows, State.pure.fillC, State.bound, State.rd, takeC, args0, State.res, State.res1, State.resS, State.resL, normS, AC.pure, splice, ↓reduceIte, Nat.reduceEqDiff, Nat.reduceLT, Nat.reduceLeDiff, Nat.reduceAdd, Nat.reduceSub, Nat.reduceMul, Int.reduceLE, Int.reduceLT, Int.reduceToNat, Int.reduceEq, Int.reduceNe, Int.reduceAdd, Int.reduceMul, Int.reducePow, Int.reduceNeg, Nat.reduceBEq, Int.reduceBNe, Int.reduceBEq, reduceCtorEq, ne_eq, IntWalk.iteOmega]
          exact hK1 _ _ _ hlv
    · have q0 : (D.e = 0) = False := eq_false e
      rw [if_neg (fun q => e q.1)] at hput
      subst hput
      simp -implicitDefEqProofs (disch := omega) only [i6_0, i6_1, i6_2, i6_3, i6_4, i6_5, i6_6, i6_7, i6_8, i6_9, i6_10, i6_11, i6_12, i6_13, i6_14, i6_15, i6_16, i6_17, i6_18, i6_19, i6_20, i6_21, i6_22, i6_23, i6_24, i6_25, i6_26, i6_27, i6_28, i6, q0, zS, State.step, State.pure, State.pure.capsOf, arrGo, State.ghosts, State.ghost, State.srcRows, State.arrRows, State.pure.fillC, State.bound, State.rd, takeC, args0, State.res, State.res1, State.resS, State.resL, normS, AC.pure, splice, ↓reduceIte, Nat.reduceEqDiff, Nat.reduceLT, Nat.reduceLeDiff, Nat.reduceAdd, Nat.reduceSub, Nat.reduceMul, Int.reduceLE, Int.reduceLT, Int.reduceToNat, Int.reduceEq, Int.reduceNe, Int.reduceAdd, Int.reduceMul, Int.reducePow, Int.reduceNeg, Nat.reduceBEq, Int.reduceBNe, Int.reduceBEq, reduceCtorEq, ne_eq, IntWalk.iteOmega]
      exact hK3 _ _ _ hlv
end Go.Proofs.Ytimapebigcmbmaa

set_option linter.unusedVariables false
set_option linter.unusedSimpArgs false
namespace Go.Proofs.Ytimapebigcmbmaa
open Go Go.AI Go.Proofs

set_option maxHeartbeats 2000000 in
theorem L6 (room : Int) (all : List Op) (hn : all.length ≤ 40) (ho : ∀ o ∈ all, o.Ok) (K : AX → State → Prop)
    (hK : ∀ H j lv pl, K (.x 0) ⟨[(1, .c (.list 0 9 (rowsO all))), (5, .c (.ptr (some (0, 0)))), (7, .c (.list lv 7 (rowsK pl))), (8, .c (.int .i64 j)), (33, .c (.bool false))], H⟩) :
    ∀ (post pre : List Op) (c : Cache) (pl : List Kept) (lv : Nat), pre ++ post = all → Inv c pre.length → FreshAll c pl → lv = 1 ∨ lv = 2 → pl.length ≤ pre.length → ∀ X, (IR.loop [] i6_L1).go Try.prog ⟨[(1, .c (.list 0 9 (rowsO all))), (5, .c (.ptr (some (0, 0)))), (7, .c (.list lv 7 (rowsK pl))), (8, .c (.int .i64 pre.length))], .cells c.enc :: X⟩ K := by
  intro post
  induction post with
  | nil =>
    intro pre c pl lv hp hi hf hlv hpl X
    obtain rfl : pre = all := by simpa using hp
    refine go_loop fun L hL => ?_
    simp -implicitDefEqProofs (disch := omega) only [i6_0, i6_1, i6_2, i6_3, i6_4, i6_5, i6_6, i6_7, i6_8, i6_9, i6_10, i6_11, i6_12, i6_13, i6_14, i6_15, i6_16, i6_17, i6_18, i6_19, i6_20, i6_21, i6_22, i6_23, i6_24, i6_25, i6_26, i6_27, i6_28, i6, i6_L1e, rowsO_len, zS, State.step, State.pure, State.pure.capsOf, arrGo, State.ghosts, State.ghost, State.srcRows, State.arrRows, State.pure.fillC, State.bound, State.rd, takeC, args0, State.res, State.res1, State.resS, State.resL, normS, AC.pure, splice, ↓reduceIte, Nat.reduceEqDiff, Nat.reduceLT, Nat.reduceLeDiff, Nat.reduceAdd, Nat.reduceSub, Nat.reduceMul, Int.reduceLE, Int.reduceLT, Int.reduceToNat, Int.reduceEq, Int.reduceNe, Int.reduceAdd, Int.reduceMul, Int.reducePow, Int.reduceNeg, Nat.reduceBEq, Int.reduceBNe, Int.reduceBEq, reduceCtorEq, ne_eq, IntWalk.iteOmega]
    rw [hL]; exact hK _ _ _ _
  | cons o post ih =>
    intro pre c pl lv hp hi hf hlv hpl X
    have hget := rowO_at hp
    have hpn : pre.length + 1 ≤ 40 := by rw [← hp] at hn; simp at hn; omega
    have hlt : (pre.length : Int) < all.length := by rw [← hp]; simp; omega
    have hoo := ho o (by rw [← hp]; simp)
    obtain ⟨g1, g2⟩ := doM_inv hi (by omega) hoo
    have hc := hi.toOk (by omega)
    have hil := hi.len
    have h19 := T19 c.items hc.few o.k.object o.k.chunk
    have h20 := T20 c o.k hc (by omega) hoo.k
    have hst := fun i x hidx hx hv => stale_put (c := c) (k := o.k) (i := i) (x := x) hidx hx hv
    have hpl' : (put' pl c o).length ≤ pre.length + 1 := by unfold put'; split <;> (try simp) <;> omega
    have hN := fun lv' hlv' => ih (pre ++ [o]) (doM c o).c (put' pl c o) lv' (by rw [← hp]; simp) (by simpa using g1) (fresh_step hi hf hoo.kind.1) hlv' (by simpa using hpl')
    simp only [List.length_append, List.length_cons, List.length_nil, Nat.zero_add] at hN
    have hS := fun X j hX t68 ht68 K hK1 hK2 hK3 => S6 room all pre.length pre.length o c pl lv X j hi (by omega) hf hoo hX hlv (by omega) t68 ht68 K hK1 hK2 hK3
    obtain ⟨hk1, hk2⟩ := hoo.kind
    have hidxS := fun i => idx_some (o := o.k.object) (c := o.k.chunk) (l := c.items) (i := i)
    clear ih ho hi g1 g2 hoo hc hf hpl'
    generalize hD : doM c o = D at *
    generalize put' pl c o = P' at *
    refine go_loop fun L hL => ?_
    have fin : ∀ Y j t, Y[j]? = some (.cells o.enc) → t = 68 ∨ t = 78 → i6_R.go Try.prog ⟨[(1, .c (.list 0 9 (rowsO all))), (5, .c (.ptr (some (0, 0)))), (7, .c (.list lv 7 (rowsK pl))), (8, .c (.int .i64 pre.length)), (9, .c (.ptr (some (j + 1, 0)))), (t, .c (.bool false))], .cells c.enc :: Y⟩ (blkK 1 (seqK Try.prog i6_K1 L)) := by
      intro Y j t hY ht
      refine hS Y j hY t ht _ ?_ ?_ ?_
      · intro lv' X' a hlv'
        simp -implicitDefEqProofs (disch := omega) only [i6_0, i6_1, i6_2, i6_3, i6_4, i6_5, i6_6, i6_7, i6_8, i6_9, i6_10, i6_11, i6_12, i6_13, i6_14, i6_15, i6_16, i6_17, i6_18, i6_19, i6_20, i6_21, i6_22, i6_23, i6_24, i6_25, i6_26, i6_27, i6_28, i6_K0, i6_K1, i6_K2, i6, zS, State.step, State.pure, State.pure.capsOf, arrGo, State.ghosts, State.ghost, State.srcRows, State.arrRows, State.pure.fillC, State.bound, State.rd, takeC, args0, State.res, State.res1, State.resS, State.resL, normS, AC.pure, splice, ↓reduceIte, Nat.reduceEqDiff, Nat.reduceLT, Nat.reduceLeDiff, Nat.reduceAdd, Nat.reduceSub, Nat.reduceMul, Int.reduceLE, Int.reduceLT, Int.reduceToNat, Int.reduceEq, Int.reduceNe, Int.reduceAdd, Int.reduceMul, Int.reducePow, Int.reduceNeg, Nat.reduceBEq, Int.reduceBNe, Int.reduceBEq, reduceCtorEq, ne_eq, IntWalk.iteOmega]
        rw [hL]; exact hN lv' hlv' X'
      · intro lv' X' hlv'
        simp -implicitDefEqProofs (disch := omega) only [i6_0, i6_1, i6_2, i6_3, i6_4, i6_5, i6_6, i6_7, i6_8, i6_9, i6_10, i6_11, i6_12, i6_13, i6_14, i6_15, i6_16, i6_17, i6_18, i6_19, i6_20, i6_21, i6_22, i6_23, i6_24, i6_25, i6_26, i6_27, i6_28, i6_K0, i6_K1, i6_K2, i6, zS, State.step, State.pure, State.pure.capsOf, arrGo, State.ghosts, State.ghost, State.srcRows, State.arrRows, State.pure.fillC, State.bound, State.rd, takeC, args0, State.res, State.res1, State.resS, State.resL, normS, AC.pure, splice, ↓reduceIte, Nat.reduceEqDiff, Nat.reduceLT, Nat.reduceLeDiff, Nat.reduceAdd, Nat.reduceSub, Nat.reduceMul, Int.reduceLE, Int.reduceLT, Int.reduceToNat, Int.reduceEq, Int.reduceNe, Int.reduceAdd, Int.reduceMul, Int.reducePow, Int.reduceNeg, Nat.reduceBEq, Int.reduceBNe, Int.reduceBEq, reduceCtorEq, ne_eq, IntWalk.iteOmega]
        rw [hL]; exact hN lv' hlv' X'
      · intro lv' X' a hlv'
        simp -implicitDefEqProofs (disch := omega) only [i6_0, i6_1, i6_2, i6_3, i6_4, i6_5, i6_6, i6_7, i6_8, i6_9, i6_10, i6_11, i6_12, i6_13, i6_14, i6_15, i6_16, i6_17, i6_18, i6_19, i6_20, i6_21, i6_22, i6_23, i6_24, i6_25, i6_26, i6_27, i6_28, i6_K0, i6_K1, i6_K2, i6, zS, State.step, State.pure, State.pure.capsOf, arrGo, State.ghosts, State.ghost, State.srcRows, State.arrRows, State.pure.fillC, State.bound, State.rd, takeC, args0, State.res, State.res1, State.resS, State.resL, normS, AC.pure, splice, ↓reduceIte, Nat.reduceEqDiff, Nat.reduceLT, Nat.reduceLeDiff, Nat.reduceAdd, Nat.reduceSub, Nat.reduceMul, Int.reduceLE, Int.reduceLT, Int.reduceToNat, Int.reduceEq, Int.reduceNe, Int.reduceAdd, Int.reduceMul, Int.reducePow, Int.reduceNeg, Nat.reduceBEq, Int.reduceBNe, Int.reduceBEq, reduceCtorEq, ne_eq, IntWalk.iteOmega]
        rw [hL]; exact hN lv' hlv' X'
    simp only [Cache.enc, Op.enc] at fin
    cases hidx : idx o.k.object o.k.chunk c.items with
    | none =>
      rw [hidx] at h19
      simp -implicitDefEqProofs (disch := omega) only [i6_L1e, i6_6, i6_7, i6_8, i6_9, i6_10, i6_11, i6_12, hlt, hget, rowsO_len, Cache.enc, Op.enc, zS, State.step, State.pure, State.pure.capsOf, arrGo, State.ghosts, State.ghost, State.srcRows, State.arrRows, State.pure.fillC, State.bound, State.rd, takeC, args0, State.res, State.res1, State.resS, State.resL, normS, AC.pure, splice, ↓reduceIte, Nat.reduceEqDiff, Nat.reduceLT, Nat.reduceLeDiff, Nat.reduceAdd, Nat.reduceSub, Nat.reduceMul, Int.reduceLE, Int.reduceLT, Int.reduceToNat, Int.reduceEq, Int.reduceNe, Int.reduceAdd, Int.reduceMul, Int.reducePow, Int.reduceNeg, Nat.reduceBEq, Int.reduceBNe, Int.reduceBEq, reduceCtorEq, ne_eq, IntWalk.iteOmega]
      refine call_pure h19 rfl rfl ?_
      simp -implicitDefEqProofs (disch := omega) only [i6_7, i6_8, i6_9, i6_10, i6_11, i6_12, idxI, zS, State.step, State.pure, State.pure.capsOf, arrGo, State.ghosts, State.ghost, State.srcRows, State.arrRows, State.pure.fillC, State.bound, State.rd, takeC, args0, State.res, State.res1, State.resS, State.resL, normS, AC.pure, splice, ↓reduceIte, Nat.reduceEqDiff, Nat.reduceLT, Nat.reduceLeDiff, Nat.reduceAdd, Nat.reduceSub, Nat.reduceMul, Int.reduceLE, Int.reduceLT, Int.reduceToNat, Int.reduceEq, Int.reduceNe, Int.reduceAdd, Int.reduceMul, Int.reducePow, Int.reduceNeg, Nat.reduceBEq, Int.reduceBNe, Int.reduceBEq, reduceCtorEq, ne_eq, IntWalk.iteOmega]
      refine fin _ X.length _ ?_ (by simp); simp
    | some i =>
      rw [hidx] at h19
      obtain ⟨x, hx, _⟩ := hidxS i hidx
      have hil2 : i < c.items.length := (List.getElem?_eq_some_iff.1 hx).1
      have hrow : (rowsK c.items)[i]? = some x.enc := by rw [rowsK_get c.items i hil2, ← (List.getElem?_eq_some_iff.1 hx).2]
      have hil3 : (i : Int) < c.items.length := by omega
      have hi0 : 0 ≤ (i : Int) := by omega
      have hst := hst i x hidx hx
      simp only [Kept.enc] at hrow
      simp -implicitDefEqProofs (disch := omega) only [i6_L1e, i6_6, i6_7, i6_8, i6_9, i6_10, i6_11, i6_12, hlt, hget, rowsO_len, Cache.enc, Op.enc, zS, State.step, State.pure, State.pure.capsOf, arrGo, State.ghosts, State.ghost, State.srcRows, State.arrRows, State.pure.fillC, State.bound, State.rd, takeC, args0, State.res, State.res1, State.resS, State.resL, normS, AC.pure, splice, ↓reduceIte, Nat.reduceEqDiff, Nat.reduceLT, Nat.reduceLeDiff, Nat.reduceAdd, Nat.reduceSub, Nat.reduceMul, Int.reduceLE, Int.reduceLT, Int.reduceToNat, Int.reduceEq, Int.reduceNe, Int.reduceAdd, Int.reduceMul, Int.reducePow, Int.reduceNeg, Nat.reduceBEq, Int.reduceBNe, Int.reduceBEq, reduceCtorEq, ne_eq, IntWalk.iteOmega]
      refine call_pure h19 rfl rfl ?_
      by_cases c1 : o.k.version < x.version
      · have q1 : (o.k.version < x.version) = True := eq_true c1
        by_cases c2 : o.kind.tmod 4 = 1
        · have q2 : (o.kind.tmod 4 = 1) = True := eq_true c2
          have q3 : ((put c o.k).2.2 = 0) = False := eq_false (hst c1)
          simp -implicitDefEqProofs (disch := omega) only [i6_7, i6_8, i6_9, i6_10, i6_11, i6_12, idxI, hil3, hi0, hrow, rowsK_len, q1, q2, zS, State.step, State.pure, State.pure.capsOf, arrGo, State.ghosts, State.ghost, State.srcRows, State.arrRows, State.pure.fillC, State.bound, State.rd, takeC, args0, State.res, State.res1, State.resS, State.resL, normS, AC.pure, splice, ↓reduceIte, Nat.reduceEqDiff, Nat.reduceLT, Nat.reduceLeDiff, Nat.reduceAdd, Nat.reduceSub, Nat.reduceMul, Int.reduceLE, Int.reduceLT, Int.reduceToNat, Int.reduceEq, Int.reduceNe, Int.reduceAdd, Int.reduceMul, Int.reducePow, Int.reduceNeg, Nat.reduceBEq, Int.reduceBNe, Int.reduceBEq, reduceCtorEq, ne_eq, IntWalk.iteOmega]
          refine call_pure h20 rfl rfl ?_
          simp -implicitDefEqProofs (disch := omega) only [i6_7, i6_8, i6_9, i6_10, i6_11, i6_12, Cache.enc, q3, zS, State.step, State.pure, State.pure.capsOf, arrGo, State.ghosts, State.ghost, State.srcRows, State.arrRows, State.pure.fillC, State.bound, State.rd, takeC, args0, State.res, State.res1, State.resS, State.resL, normS, AC.pure, splice, ↓reduceIte, Nat.reduceEqDiff, Nat.reduceLT, Nat.reduceLeDiff, Nat.reduceAdd, Nat.reduceSub, Nat.reduceMul, Int.reduceLE, Int.reduceLT, Int.reduceToNat, Int.reduceEq, Int.reduceNe, Int.reduceAdd, Int.reduceMul, Int.reducePow, Int.reduceNeg, Nat.reduceBEq, Int.reduceBNe, Int.reduceBEq, reduceCtorEq, ne_eq, IntWalk.iteOmega]
          refine fin _ X.length _ ?_ (by simp); simp
        · have q2 : (o.kind.tmod 4 = 1) = False := eq_false c2
          simp -implicitDefEqProofs (disch := omega) only [i6_7, i6_8, i6_9, i6_10, i6_11, i6_12, idxI, hil3, hi0, hrow, rowsK_len, q1, q2, zS, State.step, State.pure, State.pure.capsOf, arrGo, State.ghosts, State.ghost, State.srcRows, State.arrRows, State.pure.fillC, State.bound, State.rd, takeC, args0, State.res, State.res1, State.resS, State.resL, normS, AC.pure, splice, ↓reduceIte, Nat.reduceEqDiff, Nat.reduceLT, Nat.reduceLeDiff, Nat.reduceAdd, Nat.reduceSub, Nat.reduceMul, Int.reduceLE, Int.reduceLT, Int.reduceToNat, Int.reduceEq, Int.reduceNe, Int.reduceAdd, Int.reduceMul, Int.reducePow, Int.reduceNeg, Nat.reduceBEq, Int.reduceBNe, Int.reduceBEq, reduceCtorEq, ne_eq, IntWalk.iteOmega]
          refine fin _ X.length _ ?_ (by simp); simp
      · have q1 : (o.k.version < x.version) = False := eq_false c1
        simp -implicitDefEqProofs (disch := omega) only [i6_7, i6_8, i6_9, i6_10, i6_11, i6_12, idxI, hil3, hi0, hrow, rowsK_len, q1, zS, State.step, State.pure, State.pure.capsOf, arrGo, State.ghosts, State.ghost, State.srcRows, State.arrRows, State.pure.fillC, State.bound, State.rd, takeC, args0, State.res, State.res1, State.resS, State.resL, normS, AC.pure, splice, ↓reduceIte, Nat.reduceEqDiff, Nat.reduceLT, Nat.reduceLeDiff, Nat.reduceAdd, Nat.reduceSub, Nat.reduceMul, Int.reduceLE, Int.reduceLT, Int.reduceToNat, Int.reduceEq, Int.reduceNe, Int.reduceAdd, Int.reduceMul, Int.reducePow, Int.reduceNeg, Nat.reduceBEq, Int.reduceBNe, Int.reduceBEq, reduceCtorEq, ne_eq, IntWalk.iteOmega]
        refine fin _ X.length _ ?_ (by simp); simp
theorem T6 (room : Int) (hr : I64 room) (l : List Op) (ho : ∀ o ∈ l, o.Ok) : RunsTo Try.prog 6 [.c (.int .i64 room), .c (.list 0 9 (rowsO l))] [] (.c (.bool true)) [] := by
  have h10 := T10n room hr
  by_cases hf : Few l
  · have h18 := T18n l true (by simp [hf])
    by_cases he : newE room = 0
    · have hL := fun K hK => L6 room l hf.1 ho K hK l [] (newC room) [] 1 rfl (new_inv he) (by rw [FreshAll, newC_items]; simp) (.inl rfl) (by simp)
      clear ho
      generalize newC room = nc at *
      refine R6 (by simp) ?_
      simp -implicitDefEqProofs (disch := omega) only [i6_0, i6_1, i6_2, i6_3, i6_4, i6_5, i6_6, i6_7, i6_8, i6_9, i6_10, i6_11, i6_12, i6_13, i6_14, i6_15, i6_16, i6_17, i6_18, i6_19, i6_20, i6_21, i6_22, i6_23, i6_24, i6_25, i6_26, i6_27, i6_28, i6, zS, State.step, State.pure, State.pure.capsOf, arrGo, State.ghosts, State.ghost, State.srcRows, State.arrRows, State.pure.fillC, State.bound, State.rd, takeC, args0, State.res, State.res1, State.resS, State.resL, normS, AC.pure, splice, ↓reduceIte, Nat.reduceEqDiff, Nat.reduceLT, Nat.reduceLeDiff, Nat.reduceAdd, Nat.reduceSub, Nat.reduceMul, Int.reduceLE, Int.reduceLT, Int.reduceToNat, Int.reduceEq, Int.reduceNe, Int.reduceAdd, Int.reduceMul, Int.reducePow, Int.reduceNeg, Nat.reduceBEq, Int.reduceBNe, Int.reduceBEq, reduceCtorEq, ne_eq, IntWalk.iteOmega]
      refine call_pure h10 rfl rfl ?_
      simp -implicitDefEqProofs (disch := omega) only [i6_0, i6_1, i6_2, i6_3, i6_4, i6_5, i6_6, i6_7, i6_8, i6_9, i6_10, i6_11, i6_12, i6_13, i6_14, i6_15, i6_16, i6_17, i6_18, i6_19, i6_20, i6_21, i6_22, i6_23, i6_24, i6_25, i6_26, i6_27, i6_28, i6, Cache.enc, he, zS, State.step, State.pure, State.pure.capsOf, arrGo, State.ghosts, State.ghost, State.srcRows, State.arrRows, State.pure.fillC, State.bound, State.rd, takeC, args0, State.res, State.res1, State.resS, State.resL, normS, AC.pure, splice, ↓reduceIte, Nat.reduceEqDiff, Nat.reduceLT, Nat.reduceLeDiff, Nat.reduceAdd, Nat.reduceSub, Nat.reduceMul, Int.reduceLE, Int.reduceLT, Int.reduceToNat, Int.reduceEq, Int.reduceNe, Int.reduceAdd, Int.reduceMul, Int.reducePow, Int.reduceNeg, Nat.reduceBEq, Int.reduceBNe, Int.reduceBEq, reduceCtorEq, ne_eq, IntWalk.iteOmega]
      refine call_pure h18 rfl rfl ?_
      simp -implicitDefEqProofs (disch := omega) only [i6_0, i6_1, i6_2, i6_3, i6_4, i6_5, i6_6, i6_7, i6_8, i6_9, i6_10, i6_11, i6_12, i6_13, i6_14, i6_15, i6_16, i6_17, i6_18, i6_19, i6_20, i6_21, i6_22, i6_23, i6_24, i6_25, i6_26, i6_27, i6_28, i6, zS, State.step, State.pure, State.pure.capsOf, arrGo, State.ghosts, State.ghost, State.srcRows, State.arrRows, State.pure.fillC, State.bound, State.rd, takeC, args0, State.res, State.res1, State.resS, State.resL, normS, AC.pure, splice, ↓reduceIte, Nat.reduceEqDiff, Nat.reduceLT, Nat.reduceLeDiff, Nat.reduceAdd, Nat.reduceSub, Nat.reduceMul, Int.reduceLE, Int.reduceLT, Int.reduceToNat, Int.reduceEq, Int.reduceNe, Int.reduceAdd, Int.reduceMul, Int.reducePow, Int.reduceNeg, Nat.reduceBEq, Int.reduceBNe, Int.reduceBEq, reduceCtorEq, ne_eq, IntWalk.iteOmega]
      refine hL _ (fun H j lv pl => ?_) _
      simp -implicitDefEqProofs (disch := omega) only [i6_0, i6_1, i6_2, i6_3, i6_4, i6_5, i6_6, i6_7, i6_8, i6_9, i6_10, i6_11, i6_12, i6_13, i6_14, i6_15, i6_16, i6_17, i6_18, i6_19, i6_20, i6_21, i6_22, i6_23, i6_24, i6_25, i6_26, i6_27, i6_28, i6_K0, i6_K1, i6_K2, i6, zS, State.step, State.pure, State.pure.capsOf, arrGo, State.ghosts, State.ghost, State.srcRows, State.arrRows, State.pure.fillC, State.bound, State.rd, takeC, args0, State.res, State.res1, State.resS, State.resL, normS, AC.pure, splice, ↓reduceIte, Nat.reduceEqDiff, Nat.reduceLT, Nat.reduceLeDiff, Nat.reduceAdd, Nat.reduceSub, Nat.reduceMul, Int.reduceLE, Int.reduceLT, Int.reduceToNat, Int.reduceEq, Int.reduceNe, Int.reduceAdd, Int.reduceMul, Int.reducePow, Int.reduceNeg, Nat.reduceBEq, Int.reduceBNe, Int.reduceBEq, reduceCtorEq, ne_eq, IntWalk.iteOmega]
      refine call_pure T9 rfl rfl ?_
      simp -implicitDefEqProofs (disch := omega) only [zS, State.step, State.pure, State.pure.capsOf, arrGo, State.ghosts, State.ghost, State.srcRows, State.arrRows, State.pure.fillC, State.bound, State.rd, takeC, args0, State.res, State.res1, State.resS, State.resL, normS, AC.pure, splice, ↓reduceIte, Nat.reduceEqDiff, Nat.reduceLT, Nat.reduceLeDiff, Nat.reduceAdd, Nat.reduceSub, Nat.reduceMul, Int.reduceLE, Int.reduceLT, Int.reduceToNat, Int.reduceEq, Int.reduceNe, Int.reduceAdd, Int.reduceMul, Int.reducePow, Int.reduceNeg, Nat.reduceBEq, Int.reduceBNe, Int.reduceBEq, reduceCtorEq, ne_eq, IntWalk.iteOmega]
      (refine fin_pure rfl ?_ not_x_r; simp only [rs6, zS, State.step, State.pure, State.pure.capsOf, arrGo, State.ghosts, State.ghost, State.srcRows, State.arrRows, State.pure.fillC, State.bound, State.rd, takeC, args0, State.res, State.res1, State.resS, State.resL, normS, AC.pure, splice, ↓reduceIte, Nat.reduceEqDiff, Nat.reduceLT, Nat.reduceLeDiff, Nat.reduceAdd, Nat.reduceSub, Nat.reduceMul, Int.reduceLE, Int.reduceLT, Int.reduceToNat, Int.reduceEq, Int.reduceNe, Int.reduceAdd, Int.reduceMul, Int.reducePow, Int.reduceNeg, Nat.reduceBEq, Int.reduceBNe, Int.reduceBEq, reduceCtorEq, ne_eq, IntWalk.iteOmega])
    · generalize newC room = nc at *
      refine R6 (by simp) ?_
      simp -implicitDefEqProofs (disch := omega) only [i6_0, i6_1, i6_2, i6_3, i6_4, i6_5, i6_6, i6_7, i6_8, i6_9, i6_10, i6_11, i6_12, i6_13, i6_14, i6_15, i6_16, i6_17, i6_18, i6_19, i6_20, i6_21, i6_22, i6_23, i6_24, i6_25, i6_26, i6_27, i6_28, i6, zS, State.step, State.pure, State.pure.capsOf, arrGo, State.ghosts, State.ghost, State.srcRows, State.arrRows, State.pure.fillC, State.bound, State.rd, takeC, args0, State.res, State.res1, State.resS, State.resL, normS, AC.pure, splice, ↓reduceIte, Nat.reduceEqDiff, Nat.reduceLT, Nat.reduceLeDiff, Nat.reduceAdd, Nat.reduceSub, Nat.reduceMul, Int.reduceLE, Int.reduceLT, Int.reduceToNat, Int.reduceEq, Int.reduceNe, Int.reduceAdd, Int.reduceMul, Int.reducePow, Int.reduceNeg, Nat.reduceBEq, Int.reduceBNe, Int.reduceBEq, reduceCtorEq, ne_eq, IntWalk.iteOmega]
      refine call_pure h10 rfl rfl ?_
      simp -implicitDefEqProofs (disch := omega) only [i6_0, i6_1, i6_2, i6_3, i6_4, i6_5, i6_6, i6_7, i6_8, i6_9, i6_10, i6_11, i6_12, i6_13, i6_14, i6_15, i6_16, i6_17, i6_18, i6_19, i6_20, i6_21, i6_22, i6_23, i6_24, i6_25, i6_26, i6_27, i6_28, i6, Cache.enc, zS, State.step, State.pure, State.pure.capsOf, arrGo, State.ghosts, State.ghost, State.srcRows, State.arrRows, State.pure.fillC, State.bound, State.rd, takeC, args0, State.res, State.res1, State.resS, State.resL, normS, AC.pure, splice, ↓reduceIte, Nat.reduceEqDiff, Nat.reduceLT, Nat.reduceLeDiff, Nat.reduceAdd, Nat.reduceSub, Nat.reduceMul, Int.reduceLE, Int.reduceLT, Int.reduceToNat, Int.reduceEq, Int.reduceNe, Int.reduceAdd, Int.reduceMul, Int.reducePow, Int.reduceNeg, Nat.reduceBEq, Int.reduceBNe, Int.reduceBEq, reduceCtorEq, ne_eq, IntWalk.iteOmega]
      refine call_pure h18 rfl rfl ?_
      simp -implicitDefEqProofs (disch := omega) only [i6_0, i6_1, i6_2, i6_3, i6_4, i6_5, i6_6, i6_7, i6_8, i6_9, i6_10, i6_11, i6_12, i6_13, i6_14, i6_15, i6_16, i6_17, i6_18, i6_19, i6_20, i6_21, i6_22, i6_23, i6_24, i6_25, i6_26, i6_27, i6_28, i6, he, zS, State.step, State.pure, State.pure.capsOf, arrGo, State.ghosts, State.ghost, State.srcRows, State.arrRows, State.pure.fillC, State.bound, State.rd, takeC, args0, State.res, State.res1, State.resS, State.resL, normS, AC.pure, splice, ↓reduceIte, Nat.reduceEqDiff, Nat.reduceLT, Nat.reduceLeDiff, Nat.reduceAdd, Nat.reduceSub, Nat.reduceMul, Int.reduceLE, Int.reduceLT, Int.reduceToNat, Int.reduceEq, Int.reduceNe, Int.reduceAdd, Int.reduceMul, Int.reducePow, Int.reduceNeg, Nat.reduceBEq, Int.reduceBNe, Int.reduceBEq, reduceCtorEq, ne_eq, IntWalk.iteOmega]
      refine call_pure T9 rfl rfl ?_
      simp -implicitDefEqProofs (disch := omega) only [zS, State.step, State.pure, State.pure.capsOf, arrGo, State.ghosts, State.ghost, State.srcRows, State.arrRows, State.pure.fillC, State.bound, State.rd, takeC, args0, State.res, State.res1, State.resS, State.resL, normS, AC.pure, splice, ↓reduceIte, Nat.reduceEqDiff, Nat.reduceLT, Nat.reduceLeDiff, Nat.reduceAdd, Nat.reduceSub, Nat.reduceMul, Int.reduceLE, Int.reduceLT, Int.reduceToNat, Int.reduceEq, Int.reduceNe, Int.reduceAdd, Int.reduceMul, Int.reducePow, Int.reduceNeg, Nat.reduceBEq, Int.reduceBNe, Int.reduceBEq, reduceCtorEq, ne_eq, IntWalk.iteOmega]
      (refine fin_pure rfl ?_ not_x_r; simp only [rs6, zS, State.step, State.pure, State.pure.capsOf, arrGo, State.ghosts, State.ghost, State.srcRows, State.arrRows, State.pure.fillC, State.bound, State.rd, takeC, args0, State.res, State.res1, State.resS, State.resL, normS, AC.pure, splice, ↓reduceIte, Nat.reduceEqDiff, Nat.reduceLT, Nat.reduceLeDiff, Nat.reduceAdd, Nat.reduceSub, Nat.reduceMul, Int.reduceLE, Int.reduceLT, Int.reduceToNat, Int.reduceEq, Int.reduceNe, Int.reduceAdd, Int.reduceMul, Int.reducePow, Int.reduceNeg, Nat.reduceBEq, Int.reduceBNe, Int.reduceBEq, reduceCtorEq, ne_eq, IntWalk.iteOmega])
  · have h18 := T18n l false (by simp [hf])
    generalize newC room = nc at *
    refine R6 (by simp) ?_
    simp -implicitDefEqProofs (disch := omega) only [i6_0, i6_1, i6_2, i6_3, i6_4, i6_5, i6_6, i6_7, i6_8, i6_9, i6_10, i6_11, i6_12, i6_13, i6_14, i6_15, i6_16, i6_17, i6_18, i6_19, i6_20, i6_21, i6_22, i6_23, i6_24, i6_25, i6_26, i6_27, i6_28, i6, zS, State.step, State.pure, State.pure.capsOf, arrGo, State.ghosts, State.ghost, State.srcRows, State.arrRows, State.pure.fillC, State.bound, State.rd, takeC, args0, State.res, State.res1, State.resS, State.resL, normS, AC.pure, splice, ↓reduceIte, Nat.reduceEqDiff, Nat.reduceLT, Nat.reduceLeDiff, Nat.reduceAdd, Nat.reduceSub, Nat.reduceMul, Int.reduceLE, Int.reduceLT, Int.reduceToNat, Int.reduceEq, Int.reduceNe, Int.reduceAdd, Int.reduceMul, Int.reducePow, Int.reduceNeg, Nat.reduceBEq, Int.reduceBNe, Int.reduceBEq, reduceCtorEq, ne_eq, IntWalk.iteOmega]
    refine call_pure h10 rfl rfl ?_
    simp -implicitDefEqProofs (disch := omega) only [i6_0, i6_1, i6_2, i6_3, i6_4, i6_5, i6_6, i6_7, i6_8, i6_9, i6_10, i6_11, i6_12, i6_13, i6_14, i6_15, i6_16, i6_17, i6_18, i6_19, i6_20, i6_21, i6_22, i6_23, i6_24, i6_25, i6_26, i6_27, i6_28, i6, Cache.enc, zS, State.step, State.pure, State.pure.capsOf, arrGo, State.ghosts, State.ghost, State.srcRows, State.arrRows, State.pure.fillC, State.bound, State.rd, takeC, args0, State.res, State.res1, State.resS, State.resL, normS, AC.pure, splice, ↓reduceIte, Nat.reduceEqDiff, Nat.reduceLT, Nat.reduceLeDiff, Nat.reduceAdd, Nat.reduceSub, Nat.reduceMul, Int.reduceLE, Int.reduceLT, Int.reduceToNat, Int.reduceEq, Int.reduceNe, Int.reduceAdd, Int.reduceMul, Int.reducePow, Int.reduceNeg, Nat.reduceBEq, Int.reduceBNe, Int.reduceBEq, reduceCtorEq, ne_eq, IntWalk.iteOmega]
    refine call_pure h18 rfl rfl ?_
    simp -implicitDefEqProofs (disch := omega) only [i6_0, i6_1, i6_2, i6_3, i6_4, i6_5, i6_6, i6_7, i6_8, i6_9, i6_10, i6_11, i6_12, i6_13, i6_14, i6_15, i6_16, i6_17, i6_18, i6_19, i6_20, i6_21, i6_22, i6_23, i6_24, i6_25, i6_26, i6_27, i6_28, i6, zS, State.step, State.pure, State.pure.capsOf, arrGo, State.ghosts, State.ghost, State.srcRows, State.arrRows, State.pure.fillC, State.bound, State.rd, takeC, args0, State.res, State.res1, State.resS, State.resL, normS, AC.pure, splice, ↓reduceIte, Nat.reduceEqDiff, Nat.reduceLT, Nat.reduceLeDiff, Nat.reduceAdd, Nat.reduceSub, Nat.reduceMul, Int.reduceLE, Int.reduceLT, Int.reduceToNat, Int.reduceEq, Int.reduceNe, Int.reduceAdd, Int.reduceMul, Int.reducePow, Int.reduceNeg, Nat.reduceBEq, Int.reduceBNe, Int.reduceBEq, reduceCtorEq, ne_eq, IntWalk.iteOmega]
    refine call_pure T9 rfl rfl ?_
    simp -implicitDefEqProofs (disch := omega) only [zS, State.step, State.pure, State.pure.capsOf, arrGo, State.ghosts, State.ghost, State.srcRows, State.arrRows, State.pure.fillC, State.bound, State.rd, takeC, args0, State.res, State.res1, State.resS, State.resL, normS, AC.pure, splice, ↓reduceIte, Nat.reduceEqDiff, Nat.reduceLT, Nat.reduceLeDiff, Nat.reduceAdd, Nat.reduceSub, Nat.reduceMul, Int.reduceLE, Int.reduceLT, Int.reduceToNat, Int.reduceEq, Int.reduceNe, Int.reduceAdd, Int.reduceMul, Int.reducePow, Int.reduceNeg, Nat.reduceBEq, Int.reduceBNe, Int.reduceBEq, reduceCtorEq, ne_eq, IntWalk.iteOmega]
    (refine fin_pure rfl ?_ not_x_r; simp only [rs6, zS, State.step, State.pure, State.pure.capsOf, arrGo, State.ghosts, State.ghost, State.srcRows, State.arrRows, State.pure.fillC, State.bound, State.rd, takeC, args0, State.res, State.res1, State.resS, State.resL, normS, AC.pure, splice, ↓reduceIte, Nat.reduceEqDiff, Nat.reduceLT, Nat.reduceLeDiff, Nat.reduceAdd, Nat.reduceSub, Nat.reduceMul, Int.reduceLE, Int.reduceLT, Int.reduceToNat, Int.reduceEq, Int.reduceNe, Int.reduceAdd, Int.reduceMul, Int.reducePow, Int.reduceNeg, Nat.reduceBEq, Int.reduceBNe, Int.reduceBEq, reduceCtorEq, ne_eq, IntWalk.iteOmega])
end Go.Proofs.Ytimapebigcmbmaa
