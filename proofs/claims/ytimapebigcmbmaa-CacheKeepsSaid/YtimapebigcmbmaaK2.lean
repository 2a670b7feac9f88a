/- A part of the proofs: a verified symbolic execution of Go's code, and what each function of the program computes; no conditions of its own. -/
import Derived.Test.YtimapebigcmbmaaK1
import Derived.Lib.AppendStr
import Derived.Lib.ConvBytes
import Derived.Lib.Overlaps
import Derived.Lib.AppendZerosOnto
import Derived.LoopN
import Derived.Scope

set_option linter.unusedVariables false
set_option linter.unusedSimpArgs false
namespace Go.AI
open Go Go.RowKit

theorem not_two {e : Nat} {xs : List (List AC)} (h : AC.share (.list 2 e xs) = .list 2 e xs) : False := by simp [AC.share] at h
/-- What is shared goes on whoever owns what. -/
theorem XRel.extS {N : Nat → Prop} {w w' : World} {g g' : Gh} (e : GExt N w g w' g') {p q : Place} {a : AC} (hs : a.share = a) {v : Value} (h : XRel w g p a v) : XRel w' g' q a v := by
  induction h generalizing q with
  | pure h => exact .pure (h.evo e.evo)
  | capped h => exact (not_two hs).elim
  | own us h1 h2 h3 h4 => exact (not_two hs).elim
  | nilp => exact .nilp
  | ptr h => rw [← e.β _ h]; exact .ptr (Nat.lt_of_lt_of_le h e.m)
  | eptr vs h1 h2 h3 => exact .eptr vs (Nat.le_trans h1 (e.evo.mono _)) (fun i hi => e.evo.cell _ _ _ (by omega) (h2 i hi)) (fun j a ha => (h3 j a ha).evo e.evo)
  | sl h1 h2 h3 => rw [← e.β _ h1]; exact .sl (Nat.lt_of_lt_of_le h1 e.m) (by rw [e.cap _ h1]; exact h2) h3
  | aptr h => rw [← e.β _ h]; exact .aptr (Nat.lt_of_lt_of_le h e.m)
  | fn cv h1 h2 h3 ih => exact .fn cv h1 h2 (fun j a ha => ih j a ha (h2 a (List.mem_of_getElem? ha)))
  | nilfn => exact .nilfn
  | map h => rw [← e.β _ h]; exact .map (Nat.lt_of_lt_of_le h e.m)
theorem SRel.extS {N : Nat → Prop} {w w' : World} {g g' : Gh} (e : GExt N w g w' g') {k t i k' t' i' : Nat} {a : AV} (hs : a.share = a) {v : Value} (h : SRel w g k t i a v) : SRel w' g' k' t' i' a v := by
  cases h with
  | c h => exact .c (h.extS e (by simpa [AV.share] using hs))
  | agg h1 h2 =>
    refine .agg h1 fun j a ha => (h2 j a ha).extS e ?_
    simp only [AV.share, AV.agg.injEq] at hs
    have := congrArg (·[j]?) hs
    simp only [List.getElem?_map, ha, Option.map_some, Option.some.injEq] at this
    exact this
theorem AV.share_share (a : AV) : a.share.share = a.share := by
  cases a with
  | c a => simp [AV.share, AC.share_share]
  | agg cs => simp [AV.share, AC.share_share]
  | tup vs =>
    simp only [AV.share, List.map_map, AV.tup.injEq]
    apply List.map_congr_left
    intro v _
    cases v <;> simp [AC.share_share]
theorem VRel.extS {N : Nat → Prop} {w w' : World} {g g' : Gh} (e : GExt N w g w' g') {k t k' t' : Nat} {a : AV} (hs : a.share = a) {v : Value} (h : VRel w g k t a v) : VRel w' g' k' t' a v := by
  cases h with
  | s h => exact .s (h.extS e hs)
  | tup h1 h2 =>
    refine .tup h1 fun i a ha => ?_
    have hr := h2 i a ha
    simp only [AV.share, AV.tup.injEq] at hs
    have := congrArg (·[i]?) hs
    simp only [List.getElem?_map, ha, Option.map_some, Option.some.injEq] at this
    generalize Array.getD _ i undef = y at hr ⊢
    cases hr with
    | c h => exact .c (h.extS e (by simpa using this))
    | agg h1 h2 => exact (SRel.agg h1 h2).extS e (by simpa [AV.share] using this)

/-! ### Who owns what, changed -/
def Gh.re (g : Gh) (rm : Place → Option Place) : Gh := { g with ow := fun b => (g.ow b).bind rm }
theorem GExt.re (w : World) (g : Gh) (rm : Place → Option Place) : GExt (fun _ => False) w g w (g.re rm) := ⟨Evo.refl _ _ _, Nat.le_refl _, fun _ _ => rfl, fun _ _ => rfl⟩
theorem re_some {g : Gh} {rm : Place → Option Place} {b : Nat} {p q : Place} (h : g.ow b = some p) (hr : rm p = some q) : (g.re rm).ow b = some q := by simp [Gh.re, h, hr]

/-- Places move: all slots that stay keep theirs; the heap keeps its own. -/
theorem St.re {E : Entry} {n : Nat} {σ : State} {a : Act} {w : World} {g : Gh} (h : St E n σ a w g) (rm : Place → Option Place) (hh : ∀ id i j, rm (1, id, i, j) = some (1, id, i, j)) (env' : List (Nat × AV))
    (henv : ∀ t v, look env' t = some v → t < n ∧ VRel w (g.re rm) 0 t v (a.tmps.getD t undef)) : St E n ⟨env', σ.heap⟩ a w (g.re rm) := by
  refine ⟨h.defers, h.size, henv, h.heap.ext (GExt.re w g rm) rfl (fun id k hk hl => ⟨fun h => h, ?_⟩) (fun b id i j hb hp => ⟨fun h => h, re_some hp (hh id i j)⟩) (fun b hb => ⟨(h.heap.lim b hb).1, ?_⟩), h.baseH, fun b p hp => ?_, h.evo.cast rfl rfl rfl rfl⟩
  · have := ((h.heap.rel id k hk).lt hl).2.2
    simp [Gh.re, this]
  · simp [Gh.re, (h.heap.lim b hb).2]
  · obtain ⟨q, hq, _⟩ := Option.bind_eq_some_iff.1 hp
    exact h.baseO b q hq

def dropP (s : Nat) (p : Place) : Option Place := if p.1 = 0 ∧ p.2.1 = s then none else some p
def moveP (s d : Nat) (p : Place) : Option Place := if p.1 = 0 ∧ p.2.1 = s then some (0, d, p.2.2) else some p

theorem St.drop {E : Entry} {n : Nat} {σ : State} {a : Act} {w : World} {g : Gh} (h : St E n σ a w g) {s : Nat} {v : AV} (hv : look σ.env s = some v) : St E n ⟨AI.put σ.env s v.share, σ.heap⟩ a w (g.re (dropP s)) := by
  refine h.re _ (fun id i j => by simp [dropP]) _ fun t u hu => ?_
  rw [look_put] at hu
  split at hu
  · rename_i e; subst e
    obtain rfl := Option.some.inj hu
    obtain ⟨h1, h2⟩ := h.env s v hv
    exact ⟨h1, (h2.share (k' := 0) (t' := s)).extS (GExt.re w g _) (AV.share_share v)⟩
  · rename_i e
    obtain ⟨h1, h2⟩ := h.env t u hu
    exact ⟨h1, h2.ext (GExt.re w g _) fun b i j hb hp => ⟨fun h => h, re_some hp (by simp [dropP]; omega)⟩⟩

theorem St.movT {E : Entry} {n : Nat} {σ : State} {a : Act} {w : World} {g : Gh} (h : St E n σ a w g) {s d : Nat} {v : AV} (hv : look σ.env s = some v) (hd : d < n) (hne : s ≠ d) :
    St E n ⟨AI.put (AI.put σ.env s v.share) d v, σ.heap⟩ (a.put (some d) (a.eval (.tmp s))) w (g.re (moveP s d)) := by
  have h0 : St E n ⟨AI.kill (AI.put σ.env s v.share) [d], σ.heap⟩ a w (g.re (moveP s d)) := by
    refine h.re _ (fun id i j => by simp [moveP]) _ fun t u hu => ?_
    obtain ⟨htd, hu'⟩ := look_del _ _ _ _ hu
    clear hu
    rw [look_put] at hu'
    split at hu'
    · rename_i e; subst e
      obtain rfl := Option.some.inj hu'
      obtain ⟨h1, h2⟩ := h.env s v hv
      exact ⟨h1, (h2.share (k' := 0) (t' := s)).extS (GExt.re w g _) (AV.share_share v)⟩
    · rename_i e
      obtain ⟨h1, h2⟩ := h.env t u hu'
      exact ⟨h1, h2.ext (GExt.re w g _) fun b i j hb hp => ⟨fun h => h, re_some hp (by simp [moveP]; omega)⟩⟩
  have hr : VRel w (g.re (moveP s d)) 0 d v (a.eval (.tmp s)) := (h.env s v hv).2.ext (GExt.re w g _) fun b i j hb hp => ⟨fun h => h, re_some hp (by simp [moveP])⟩
  have h1 := h0.put hd hr
  refine h1.forget _ fun t u hu => ?_
  rw [look_put] at hu ⊢
  split at hu
  · rename_i e; rw [if_pos e]; exact hu
  · rename_i e; rw [if_neg e]; exact look_keep _ _ _ _ (fun h => e h.symm) hu


/-- A block that nobody owns gets an owner. -/
def Gh.give (g : Gh) (b : Nat) (p : Place) : Gh := { g with ow := fun b' => if b' = b then some p else g.ow b' }
theorem St.give {E : Entry} {n : Nat} {σ : State} {a : Act} {w : World} {g : Gh} (h : St E n σ a w g) {b : Nat} (p : Place) (hb : b < w.heap.size) (hn : g.ow b = none) (hH : ∀ id k, σ.heap[id]? = some k → k.live = true → g.β id ≠ b) (hE : E.w0.heap.size ≤ b ∨ E.M b) : St E n σ a w (g.give b p) := by
  have e : GExt (fun _ => False) w g w (g.give b p) := ⟨Evo.refl _ _ _, Nat.le_refl _, fun _ _ => rfl, fun _ _ => rfl⟩
  have ho : ∀ b' q, b' < w.heap.size → g.ow b' = some q → ¬ False ∧ (g.give b p).ow b' = some q := fun b' q _ hq => ⟨fun h => h, by
    have : b' ≠ b := by rintro rfl; rw [hn] at hq; cases hq
    simp [Gh.give, this, hq]⟩
  refine ⟨h.defers, h.size, fun t v hv => ?_, h.heap.ext e rfl (fun id k hk hl => ⟨fun h => h, ?_⟩) (fun b id i j hb hp => ho b _ hb hp) (fun b' hb' => ⟨(h.heap.lim b' hb').1, ?_⟩), h.baseH, fun b' q hq => ?_, h.evo.cast rfl rfl rfl rfl⟩
  · obtain ⟨h1, h2⟩ := h.env t v hv
    exact ⟨h1, h2.ext e fun b i j hb hp => ho b _ hb hp⟩
  · have := ((h.heap.rel id k hk).lt hl).2.2
    simp [Gh.give, hH id k hk hl, this]
  · have : b' ≠ b := by omega
    simp [Gh.give, this, (h.heap.lim b' hb').2]
  · simp only [Gh.give] at hq
    split at hq
    · rename_i e; subst e; exact hE
    · exact h.baseO b' q hq
end Go.AI

set_option linter.unusedVariables false
set_option linter.unusedSimpArgs false
namespace Go.AI
open Go Go.RowKit Go.Lib

section
variable {P : Program} {w : World}
/-- What is appended: m elements, their cells. -/
structure Src (P : Program) (w : World) (size m : Nat) (x : Value) (news : List Value) : Prop where
  len : ∀ w', (Builtin.lenOf x).run P w' = .ok m w'
  cells : ∀ w' : World, w'.heap = w.heap → (Builtin.firstCells size m x).run P w' = .ok news.toArray w'
  num : news.length = m * size
  one : ∀ u ∈ news, u.oneCell' = true

theorem run_app_same {t u ty e : Nat} {i : TypeInfo} (ht : P.underlying t = some (.slice e)) (hu : (∃ e', P.underlying u = some (.slice e')) ∨ P.underlying u = some .string) (hi : P.info? e = some i) {x : Value} {news : List Value} (hs : Src P w i.size 0 x news)
    (base : Option Addr) (n c : Nat) (hn : n ≤ c) : (Builtin.append_ #[t, u] ty #[.slice base n c, x]).run P w = .ok (.slice base n c) w := by
  have h0 : news = [] := List.eq_nil_of_length_eq_zero (by rw [hs.num]; simp)
  have hc := hs.cells w rfl
  rw [h0] at hc
  rcases hu with ⟨e', hu⟩ | hu <;> cases base <;> simp [Builtin.append_, run_underlying ht, run_underlying hu, sizeOf, typeInfo, hi, hs.len, hn, hc, storeCells]

theorem run_app_room {t u ty e : Nat} {i : TypeInfo} (ht : P.underlying t = some (.slice e)) (hu : (∃ e', P.underlying u = some (.slice e')) ∨ P.underlying u = some .string) (hi : P.info? e = some i) {x : Value} {m : Nat} {news : List Value} (hs : Src P w i.size m x news)
    (g n c : Nat) (T : TypeId) (cur : Array Value) (hg : w.heap[g]? = some (.cells cur T (0, 0))) (hroom : n + m ≤ c) (hfit : n * i.size + news.length ≤ cur.size) :
    (Builtin.append_ #[t, u] ty #[.slice (some ⟨g, 0, none⟩) n c, x]).run P w = .ok (.slice (some ⟨g, 0, none⟩) (n + m) c) (w.setRow g (cur.toList.take (n * i.size) ++ news ++ cur.toList.drop (n * i.size + news.length)).toArray) := by
  have hst := run_storeCells_at P g (n * i.size) T news 0 cur w hg (by simpa using hfit) hs.one
  simp only [Nat.add_zero] at hst
  have hc := hs.cells w rfl
  rcases hu with ⟨e', hu⟩ | hu <;> simp [Builtin.append_, run_underlying ht, run_underlying hu, sizeOf, typeInfo, hi, hs.len, hroom, hc, Addr.add_lit, hst]

theorem run_app_grow {t u ty e : Nat} {i : TypeInfo} {z : Value} (ht : P.underlying t = some (.slice e)) (hu : (∃ e', P.underlying u = some (.slice e')) ∨ P.underlying u = some .string) (hi : P.info? e = some i) (hz : i.zero = some z) {x : Value} {m : Nat} {news : List Value} (hs : Src P w i.size m x news)
    (base : Option Addr) (n c : Nat) (olds : List Value) (ho : ∀ w' : World, w'.heap = w.heap → (Builtin.firstCells i.size n (.slice base n c)).run P w' = .ok olds.toArray w') (hg : c < n + m) (h63 : n + m ≤ 9223372036854775807) (hb : (n + m) * i.bytes ≤ 140737488355328) :
    (Builtin.append_ #[t, u] ty #[.slice base n c, x]).run P w = .ok (.slice (some ⟨w.heap.size, 0, none⟩) (n + m) (grownCap w (n + m) c e))
        (w.drew.alloc (.cells (olds.toArray ++ news.toArray ++ Builtin.zeroCells z.cells (grownCap w (n + m) c e - (n + m))) e)) := by
  have hn : ¬ (n + m ≤ c) := by omega
  have h63' : ¬ (9223372036854775807 < ((n : Int) + (m : Int))) := by omega
  have h48 := growslice_fits hg hb
  have h48' : ¬ (281474976710656 < Builtin.nextslicecap (n + m) c * i.bytes) := by omega
  have hf := hs.cells w.drew rfl
  have hfo := ho w.drew rfl
  rcases hu with ⟨e', hu⟩ | hu <;> (
    simp [Builtin.append_, run_underlying ht, run_underlying hu, sizeOf, typeInfo, zeroValue, hi, hz, hs.len, hn, h63', h48', Question.forced, hf, hfo, newRow, grownCap]
    congr 2
    apply Array.ext'
    simp [List.append_assoc])

/-- A shared list as a source. -/
theorem Src.list {L : Nat → Nat} {lv esz : Nat} {ys : List (List AC)} {x : Value} (h : CRel w L (.list lv esz ys) x) : ∃ news, Src P w esz ys.length x news ∧ (∀ y ∈ ys, y.length = esz) ∧ ∀ i y, ys[i]? = some y → ∀ j a, y[j]? = some a → ∃ u, news[i * esz + j]? = some u ∧ CRel w L a u := by
  cases h with
  | nil _ _ A c h1 h2 =>
    refine ⟨[], ⟨fun w' => rfl, fun w' hw => ?_, by simp, by simp⟩, by simp, by simp⟩
    cases A <;> simp [Builtin.firstCells, loadCells, loadCellsFrom]
  | list _ _ _ b o nn c vs g1 g2 gn g3 g4 g5 g6 g7 =>
    subst gn
    refine ⟨(List.range (ys.length * esz)).map vs, ⟨fun w' => rfl, fun w' hw => ?_, by simp, fun u hu => ?_⟩, g4, fun i y hy j a ha => ⟨vs (i * esz + j), ?_, g7 i y hy j a ha⟩⟩
    · have hcell : ∀ a, w'.cell? a = w.cell? a := fun a => by simp [World.cell?, hw]
      have := run_firstCells_some (P := P) w' esz ys.length ⟨b, o, none⟩ ys.length c ((List.range (ys.length * esz)).map vs) (by simp) (fun j v hv => by
        rw [List.getElem?_map] at hv
        obtain ⟨q, hq, rfl⟩ := Option.map_eq_some_iff.1 hv
        have hj : j < ys.length * esz := by have := (List.getElem?_eq_some_iff.1 hq).1; simpa using this
        rw [List.getElem?_range hj] at hq
        obtain rfl := Option.some.inj hq
        rw [hcell, Addr.add_lit]; exact g6 j hj)
      simpa using this
    · obtain ⟨q, hq, rfl⟩ := List.mem_map.1 hu
      have hq' : q < ys.length * esz := by simpa using hq
      by_cases he : esz = 0
      · subst he; simp at hq'
      · have hpos : 0 < esz := by omega
        have hi : q / esz < ys.length := by rw [Nat.div_lt_iff_lt_mul hpos]; exact hq'
        have hy : ys[q / esz]? = some ys[q / esz] := List.getElem?_eq_getElem hi
        have hl := g4 _ (List.getElem_mem hi)
        have hj : q % esz < ys[q / esz].length := by rw [hl]; exact Nat.mod_lt _ hpos
        have := g7 _ _ hy (q % esz) _ (List.getElem?_eq_getElem hj)
        rw [Nat.div_add_mod'] at this
        exact this.one.1
    · have := (flat_at g4 hy ha).1
      simp [List.getElem?_range this]
theorem encB_get (l : List UInt8) (i : Nat) (y : List AC) (h : (encB l)[i]? = some y) : ∃ b, l[i]? = some b ∧ y = [.int .u8 b.toNat] := by
  simp only [encB, List.getElem?_map] at h
  obtain ⟨b, hb, rfl⟩ := Option.map_eq_some_iff.1 h
  exact ⟨b, hb, rfl⟩
theorem Src.str (L : Nat → Nat) (s : ByteArray) : Src P w 1 (encB s.data.toList).length (.string s) (strCells s) ∧ (∀ y ∈ encB s.data.toList, y.length = 1) ∧ ∀ i y, (encB s.data.toList)[i]? = some y → ∀ j a, y[j]? = some a → ∃ u, (strCells s)[i * 1 + j]? = some u ∧ CRel w L a u := by
  have hl : (encB s.data.toList).length = s.size := by simp [encB]
  refine ⟨⟨fun w' => by rw [hl]; rfl, fun w' hw => by rw [hl]; exact run_firstCells_string (P := P) w' 1 s, by rw [hl, strCells_length, Nat.mul_one], strCells_oneCell s⟩, fun y hy => ?_, fun i y hy j a ha => ?_⟩
  · obtain ⟨i, hi⟩ := List.getElem?_of_mem hy
    obtain ⟨b, _, rfl⟩ := encB_get _ _ _ hi
    rfl
  · obtain ⟨b, hb, rfl⟩ := encB_get _ _ _ hy
    cases j with
    | zero =>
      simp at ha; subst ha
      exact ⟨.int .u8 b.toNat, by simp [strCells, hb], .int _ _⟩
    | succ j => simp at ha
end
end Go.AI

set_option linter.unusedVariables false
set_option linter.unusedSimpArgs false
namespace Go.AI
open Go Go.RowKit Go.Lib

def Gh.setL (g : Gh) (b k : Nat) : Gh := { g with L := fun b' => if b' = b then k else g.L b' }

theorem alloc_cell {w : World} (o : Obj) {b j : Nat} {v : Value} (h : w.cell? ⟨b, j, none⟩ = some v) : (w.alloc o).cell? ⟨b, j, none⟩ = some v := by
  have hb := World.block_lt_of_cell? w _ h
  have := World.cell?_of_block (w := w) (w' := w.alloc o) (a := ⟨b, j, none⟩) (heap_alloc_old w o b hb)
  rw [this]; exact h
theorem alloc_size (w : World) (o : Obj) : (w.alloc o).heap.size = w.heap.size + 1 := by show (w.heap.push o).size = _; simp

section
variable {P : Program} {E : Entry} {n : Nat} {σ : State} {a : Act} {w : World} {g : Gh}

/-- A new block that the heap does not list. -/
theorem St.alloc0 (h : St E n σ a w g) (o : Obj) (k : Nat) : St E n σ a (w.alloc o) (g.setL w.heap.size k) := by
  have hlim := h.heap.lim
  refine h.ext (N := fun _ => False) ⟨⟨rfl, rfl, rfl, by rw [alloc_size]; omega, fun b hb _ => heap_alloc_old w o b hb, fun b hb _ => ?_, fun b j v ho hv => alloc_cell o hv, fun b => ?_⟩, Nat.le_refl _, fun _ _ => rfl, fun _ _ => rfl⟩ rfl
    (fun _ _ h => h.elim) (fun _ _ _ _ h => h) (fun _ _ _ h => ⟨fun h => h, h⟩) (fun _ _ h _ => h) (fun _ _ h => h.elim) (fun b hb => ?_)
  · simp [Gh.setL, show b ≠ w.heap.size by omega]
  · simp only [Gh.setL]
    split
    · rename_i e; rw [e, (hlim _ (Nat.le_refl _)).1]; exact Nat.zero_le _
    · exact Nat.le_refl _
  · rw [alloc_size] at hb
    obtain ⟨h1, h2⟩ := hlim b (by omega)
    exact ⟨by simp [Gh.setL, show b ≠ w.heap.size by omega, h1], h2⟩

theorem setRow_size (w : World) (b : Nat) (cs : Array Value) : (w.setRow b cs).heap.size = w.heap.size := by simp [World.setRow]
theorem GExt.setRow {b k : Nat} {cur cs : Array Value} {e : Nat} (hb : w.heap[b]? = some (.cells cur e (0, 0))) (hk : g.L b ≤ k) (hcs : ∀ j, j < g.L b → cs[j]? = cur[j]?) : GExt (fun x => x = b) w g (w.setRow b cs) (g.setL b k) := by
  refine ⟨⟨rfl, rfl, rfl, by rw [setRow_size]; exact Nat.le_refl _, fun x _ hx => setRow_other w b x cs hx, fun x _ hx => by simp [Gh.setL, hx], fun x j v ho hv => ?_, fun x => ?_⟩, Nat.le_refl _, fun _ _ => rfl, fun _ _ => rfl⟩
  · by_cases hxb : x = b
    · subst hxb
      rw [cell_of_row _ _ _ _ _ _ (setRow_heap w x cur cs e _ hb), hcs j ho]
      rw [cell_of_row _ _ _ _ _ _ hb] at hv
      exact hv
    · have := World.cell?_of_block (w := w) (w' := w.setRow b cs) (a := ⟨x, j, none⟩) (setRow_other w b x cs hxb)
      rw [this]; exact hv
  · simp only [Gh.setL]
    split
    · rename_i e; rw [e]; exact hk
    · exact Nat.le_refl _
/-- A block that nobody owns, and that the heap does not list, is written behind its limit. -/
theorem St.setRow (h : St E n σ a w g) {b k : Nat} {cur cs : Array Value} {e : Nat} (hb : w.heap[b]? = some (.cells cur e (0, 0))) (hown : g.ow b = none) (hH : ∀ id q, σ.heap[id]? = some q → q.live = true → g.β id ≠ b) (hE : E.w0.heap.size ≤ b ∨ E.M b)
    (hk : g.L b ≤ k) (hcs : ∀ j, j < g.L b → cs[j]? = cur[j]?) : St E n σ a (w.setRow b cs) (g.setL b k) := by
  have hlt : b < w.heap.size := (Array.getElem?_eq_some_iff.1 hb).1
  refine h.ext (GExt.setRow hb hk hcs) rfl
    (fun x _ hx => by rw [hx]; exact hE) (fun id q hq hl => hH id q hq hl) (fun x p hx hp => ⟨(fun he => by rw [he, hown] at hp; cases hp), hp⟩) (fun x _ hx _ => hx) (fun x _ hx hp => by rw [hx] at hp; exact hp hown) (fun x hx => ?_)
  rw [setRow_size] at hx
  obtain ⟨h1, h2⟩ := h.heap.lim x hx
  exact ⟨by simp [Gh.setL, show x ≠ b by omega, h1], h2⟩
end

/-- The list after an append: its row. -/
theorem rows_append {w : World} {L : Nat → Nat} {esz : Nat} {xs ys : List (List AC)} {us news : List Value} (hl : us.length = xs.length * esz) (hx : ∀ x ∈ xs, x.length = esz) (h1 : ∀ i x, xs[i]? = some x → ∀ j a, x[j]? = some a → ∃ u, us[i * esz + j]? = some u ∧ CRel w L a u)
    (h2 : ∀ i y, ys[i]? = some y → ∀ j a, y[j]? = some a → ∃ u, news[i * esz + j]? = some u ∧ CRel w L a u) : ∀ i x, (xs ++ ys)[i]? = some x → ∀ j a, x[j]? = some a → ∃ u, (us ++ news)[i * esz + j]? = some u ∧ CRel w L a u := by
  intro i x hxi j a ha
  by_cases hi : i < xs.length
  · rw [List.getElem?_append_left hi] at hxi
    obtain ⟨u, hu, hc⟩ := h1 i x hxi j a ha
    refine ⟨u, ?_, hc⟩
    rw [List.getElem?_append_left (by rw [hl]; exact (flat_at hx hxi ha).1)]; exact hu
  · rw [List.getElem?_append_right (by omega)] at hxi
    obtain ⟨u, hu, hc⟩ := h2 _ x hxi j a ha
    refine ⟨u, ?_, hc⟩
    have hle : us.length ≤ i * esz + j := by
      rw [hl]; have := Nat.mul_le_mul_right esz (show xs.length ≤ i by omega); omega
    rw [List.getElem?_append_right hle, hl, show i * esz + j - xs.length * esz = (i - xs.length) * esz + j by rw [Nat.sub_mul]; have := Nat.mul_le_mul_right esz (show xs.length ≤ i by omega); omega]
    exact hu

section
variable {P : Program} {E : Entry} {n : Nat} {σ : State} {a : Act} {w : World} {g : Gh}

/-- The grown row lies in a new block. -/
theorem St.grown (h : St E n σ a w g) {e esz : Nat} {zs : List (List AC)} {olds news : List Value} {z : Value} {cap need : Nat} (hneed : zs.length = need) (hcap : need ≤ cap) (hcm : cap ≤ maxLen) (hz : z.cells.size = esz) (hl : (olds ++ news).length = need * esz) (hzl : ∀ x ∈ zs, x.length = esz)
    (hr : ∀ i x, zs[i]? = some x → ∀ j a, x[j]? = some a → ∃ u, (olds ++ news)[i * esz + j]? = some u ∧ CRel w g.L a u) {d : Nat} (hd : d < n) :
    ∃ g', St E n ⟨AI.put σ.env d (.c (.list 2 esz zs)), σ.heap⟩ (a.put (some d) (.slice (some ⟨w.heap.size, 0, none⟩) need cap)) (w.drew.alloc (.cells (olds.toArray ++ news.toArray ++ Builtin.zeroCells z.cells (cap - need)) e)) g' := by
  have h1 : St E n σ a w.drew g := h.drawn _
  have h2 := h1.alloc0 (.cells (olds.toArray ++ news.toArray ++ Builtin.zeroCells z.cells (cap - need)) e) (need * esz)
  have hsz : w.drew.heap.size = w.heap.size := rfl
  rw [hsz] at h2
  have hge : E.w0.heap.size ≤ w.heap.size := h.evo.size
  have hnone : (g.setL w.heap.size (need * esz)).ow w.heap.size = none := (h.heap.lim _ (Nat.le_refl _)).2
  have h3 := h2.give (b := w.heap.size) (0, d, 0, 0) (by rw [alloc_size, hsz]; omega) hnone (fun id k hk hl => by
    have := ((h.heap.rel id k hk).lt hl).1
    intro e; simp only [Gh.setL] at e; omega) (.inl hge)
  refine ⟨_, h3.put hd (.s (.c (.own (olds ++ news) (e := e) ?_ hzl (fun i x hx j c hc => ?_) (fun b hb => ?_))))⟩
  · subst hneed
    refine ⟨hl, .inr ⟨w.heap.size, cap, _, rfl, Nat.zero_le _, heap_alloc_new _ _, hcap, hcm, ?_, ?_⟩⟩
    · simp only [Array.size_append, List.size_toArray, size_zeroCells, hz]
      rw [← List.length_append, hl, ← Nat.add_mul]
      congr 1; omega
    · simp only [Array.toList_append, List.append_assoc]
      rw [← hl, ← List.append_assoc]
      exact List.take_left
  · obtain ⟨u, hu, hc'⟩ := hr i x hx j c hc
    refine ⟨u, hu, hc'.keep (fun b o v ho hv => ?_) (fun b => ?_)⟩
    · have := alloc_cell (w := w.drew) (.cells (olds.toArray ++ news.toArray ++ Builtin.zeroCells z.cells (cap - need)) e) (b := b) (j := o) (v := v) hv
      exact this
    · simp only [Gh.give, Gh.setL]
      split
      · rename_i e'; rw [e', (h.heap.lim _ (Nat.le_refl _)).1]; exact Nat.zero_le _
      · exact Nat.le_refl _
  · simp only [Value.ownBlock, Option.some.injEq] at hb
    subst hb
    exact ⟨by simp [Gh.give], by simp [Gh.give, Gh.setL, hneed]⟩

/-- The row has grown in its place. -/
theorem St.room (h : St E n σ a w g) {e esz b c : Nat} {cur : Array Value} {xs ys : List (List AC)} {us news : List Value} (hb : w.heap[b]? = some (.cells cur e (0, 0))) (hown : g.ow b = none) (hH : ∀ id q, σ.heap[id]? = some q → q.live = true → g.β id ≠ b) (hE : E.w0.heap.size ≤ b ∨ E.M b)
    (hL : g.L b = xs.length * esz) (hc : xs.length + ys.length ≤ c) (hcm : c ≤ maxLen) (hcs : cur.size = c * esz) (htake : cur.toList.take (xs.length * esz) = us) (hnl : news.length = ys.length * esz) (hul : us.length = xs.length * esz) (hzl : ∀ x ∈ xs ++ ys, x.length = esz)
    (hr : ∀ i x, (xs ++ ys)[i]? = some x → ∀ j a, x[j]? = some a → ∃ u, (us ++ news)[i * esz + j]? = some u ∧ CRel w g.L a u) {d : Nat} (hd : d < n) :
    ∃ g', St E n ⟨AI.put σ.env d (.c (.list 2 esz (xs ++ ys))), σ.heap⟩ (a.put (some d) (.slice (some ⟨b, 0, none⟩) (xs.length + ys.length) c)) (w.setRow b (cur.toList.take (xs.length * esz) ++ news ++ cur.toList.drop (xs.length * esz + news.length)).toArray) g' := by
  have hlt : b < w.heap.size := (Array.getElem?_eq_some_iff.1 hb).1
  have hkeep : ∀ j, j < g.L b → ((cur.toList.take (xs.length * esz) ++ news ++ cur.toList.drop (xs.length * esz + news.length)).toArray)[j]? = cur[j]? := fun j hj => by
    rw [hL] at hj
    have hjl : j < (cur.toList.take (xs.length * esz)).length := by rw [htake, hul]; exact hj
    simp only [List.getElem?_toArray, List.append_assoc]
    rw [List.getElem?_append_left hjl, List.getElem?_take, if_pos hj]
    simp
  have hmul : (xs.length + ys.length) * esz = xs.length * esz + ys.length * esz := Nat.add_mul _ _ _
  have h2 := h.setRow (k := (xs.length + ys.length) * esz) (cs := (cur.toList.take (xs.length * esz) ++ news ++ cur.toList.drop (xs.length * esz + news.length)).toArray) hb hown hH hE (by rw [hL, hmul]; omega) hkeep
  have hge := GExt.setRow (g := g) (k := (xs.length + ys.length) * esz) hb (by rw [hL, hmul]; omega) hkeep
  have h3 := h2.give (b := b) (0, d, 0, 0) (by rw [setRow_size]; exact hlt) hown hH hE
  refine ⟨_, h3.put hd (.s (.c (.own (us ++ news) (e := e) ?_ hzl (fun i x hx j c hc => ?_) (fun b' hb' => ?_))))⟩
  · rw [List.length_append]
    refine ⟨by rw [List.length_append, hul, hnl, hmul], .inr ⟨b, c, _, rfl, Nat.zero_le _, setRow_heap w b cur _ e _ hb, hc, hcm, ?_, ?_⟩⟩
    · simp only [List.size_toArray, List.length_append, List.length_take, List.length_drop, Array.length_toList]
      have : (xs.length + ys.length) * esz ≤ c * esz := Nat.mul_le_mul_right _ hc
      rw [hmul] at this
      omega
    · rw [htake, hmul, ← hul, ← hnl, ← List.length_append]
      exact List.take_left
  · obtain ⟨u, hu, hc'⟩ := hr i x hx j c hc
    exact ⟨u, hu, hc'.keep hge.evo.cell hge.evo.mono⟩
  · simp only [Value.ownBlock, Option.some.injEq] at hb'
    subst hb'
    exact ⟨by simp [Gh.give], by simp [Gh.give, Gh.setL]⟩
end
end Go.AI

set_option linter.unusedVariables false
set_option linter.unusedSimpArgs false
namespace Go.AI
open Go Go.RowKit Go.Lib

/-! ### Operations that turn the state -/
def State.raw (σ : State) : Opd → Option AV
  | .t n => look σ.env n
  | .c v => some v
def State.take (σ : State) : Opd → State
  | .t s => match look σ.env s with
    | some v => ⟨put σ.env s v.share, σ.heap⟩
    | none => σ
  | .c _ => σ
def State.setD (σ : State) (dst : Option Nat) (v : AV) : State :=
  match dst with
  | some d => ⟨put σ.env d v, σ.heap⟩
  | none => σ
def chunk : Nat → Nat → List AC → List (List AC)
  | 0, _, _ => []
  | n + 1, k, l => (l.take k).map AC.norm :: chunk n k (l.drop k)
def AC.isTup : AV → Bool
  | .tup _ => true
  | _ => false
/-- The cells of a block, some replaced. -/
def splice (cs : List AC) (off : Nat) (us : List AC) : List AC := cs.take off ++ us ++ cs.drop (off + us.length)

/-- The tmps stand in order. -/
def srtB : List (Nat × AV) → Bool
  | [] => true
  | [_] => true
  | (s, _) :: (t, v) :: r => decide (s < t) && srtB ((t, v) :: r)
/-- A list grown by others, in a block of its own that may be written: extra, its spare room. -/
def State.stepA (σ : State) (dst : Option Nat) (e esz bytes : Nat) (z : List AC) (s x : Opd) (extra : Nat) : Option State :=
  match σ.raw s, σ.ev x, dst with
  | some (.c (.list 1 k xs)), some (.c (.list _ k' ys)), some d => if k = esz ∧ k' = esz then if (xs.length + ys.length) * bytes ≤ 140737488355328 ∧ xs.length + ys.length ≤ 9223372036854775807 then
      match ys with
      | [] => some ⟨put (σ.take s).env d (.c (.list 1 esz xs)), σ.heap⟩
      | _ :: _ => some ⟨put (σ.take s).env d (.c (.sl σ.heap.length esz 0 (xs.length + ys.length) (xs.length + ys.length + extra))), σ.heap ++ [.arr e esz (xs ++ ys ++ List.replicate extra z)]⟩
    else none else none
  | _, _, _ => none
/-- The block that an address names. -/
def blkOf : AV → Option Nat
  | .c (.ptr (some (id, _))) => some id
  | .c (.aptr id _ _ _) => some id
  | _ => none
/-- These slots hold no address of the block that is written. -/
def State.apart (σ : State) (ts : List Nat) (x : Opd) : Bool :=
  match (σ.ev x).bind blkOf with
  | some id => ts.all fun t => match (look σ.env t).bind blkOf with
    | some id' => id' != id
    | none => true
  | none => false
/-- An empty slice literal has no room. -/
def bslv (len : Nat) : Nat := if len = 0 then 1 else 2
def State.step (σ : State) (dst : Option Nat) : IOp → Option State
  | .movT s => match look σ.env s, dst with
    | some v, some d => if s ≠ d then some ⟨put (put σ.env s v.share) d v, σ.heap⟩ else none
    | _, _ => none
  | .alloc cs => match dst with
    | some d => some ⟨put σ.env d (.c (.ptr (some (σ.heap.length, 0)))), σ.heap ++ [.cells cs]⟩
    | none => none
  | .box x => match σ.ev x, dst with
    | some (.c a), some d => some ⟨put σ.env d (.c (.ptr (some (σ.heap.length, 0)))), σ.heap ++ [.cells [a]]⟩
    | some (.agg cs), some d => some ⟨put σ.env d (.c (.ptr (some (σ.heap.length, 0)))), σ.heap ++ [.cells cs]⟩
    | _, _ => none
  | .bsl e esz len zero parts => match State.pure.fillC σ zero parts, dst with
    | some fl, some d => if fl.all AC.pure then some ⟨put σ.env d (.c (.list (bslv len) esz (chunk len esz fl))), σ.heap⟩ else none
    | _, _ => none
  | .s2b e x => match σ.ev x, dst with
    | some (.c (.str s)), some d => if s.size ≤ 9223372036854775807 then some ⟨put σ.env d (.c (.list 0 1 (encB s.data.toList))), σ.heap⟩ else none
    | _, _ => none
  | .loadT x => match σ.ev x, dst with
    | some (.c (.ptr (some (id, off)))), some d => match σ.heap[id]? with
      | some (.cells cs) => match cs[off]? with
        | some a => some ⟨put σ.env d (.c a), σ.heap.set id (.cells (cs.set off a.share))⟩
        | none => none
      | _ => none
    | _, _ => none
  | .store n x v => match σ.ev x, σ.raw v with
    | some (.c (.ptr (some (id, off)))), some u => match σ.heap[id]? with
      | some (.cells cs) => if u.cells.length = n ∧ 0 < n ∧ off + n ≤ cs.length then some ⟨(σ.take v).env, σ.heap.set id (.cells (splice cs off u.cells))⟩ else none
      | _ => none
    | some (.c (.aptr id esz i off)), some u => match σ.heap[id]? with
      | some (.arr e k xs) => if k = esz then match xs[i]? with
          | some y => if u.cells.length = n ∧ 0 < n ∧ off + n ≤ y.length ∧ u.cells.all AC.pure then some ⟨σ.env, σ.heap.set id (.arr e k (xs.set i (splice y off (u.cells.map AC.norm))))⟩ else none
          | none => none
        else none
      | _ => none
    | _, _ => none
  | .append e esz bytes s x => match σ.raw s, σ.ev x, dst with
    | some (.c (.list lv k xs)), some (.c (.list _ k' ys)), some d => if k = esz ∧ k' = esz ∧ 1 ≤ lv ∧ lv ≤ 2 then if (xs.length + ys.length) * bytes ≤ 140737488355328 ∧ xs.length + ys.length ≤ 9223372036854775807 then some ⟨put (σ.take s).env d (.c (.list 2 esz (xs ++ ys))), σ.heap⟩ else none else none
    | some (.c (.list lv k xs)), some (.c (.str t)), some d => if k = esz ∧ esz = 1 ∧ 1 ≤ lv ∧ lv ≤ 2 then if (xs.length + t.size) * bytes ≤ 140737488355328 ∧ xs.length + t.size ≤ 9223372036854775807 then some ⟨put (σ.take s).env d (.c (.list 2 esz (xs ++ encB t.data.toList))), σ.heap⟩ else none else none
    | _, _, _ => none
  | .frz s => match look σ.env s, dst with
    | some (.c (.sl id esz 0 len _)), some d => match σ.heap[id]? with
      | some (.arr _ k xs) => if k = esz ∧ xs.length = len ∧ 0 < esz then some ⟨put σ.env d (.c (.list 0 esz xs)), σ.heap.set id .dead⟩ else none
      | _ => none
    | some (.c (.list lv k xs)), some d => some ⟨put σ.env d (AV.c (.list lv k xs)).share, σ.heap⟩
    | _, _ => none
  | .asl m k x => match σ.ev x, dst with
    | some (.c (.eptr cs)), some d => if m * k ≤ cs.length ∧ 0 < m then some ⟨put σ.env d (.c (.list 1 k (chunk m k (cs.take (m * k))))), σ.heap⟩ else none
    | some (.c (.ptr (some (id, 0)))), some d => match σ.heap[id]? with
      | some (.cells cs) => if cs.length = m * k ∧ 0 < m ∧ cs.all AC.pure then some ⟨put σ.env d (.c (.list 1 k (chunk m k cs))), σ.heap.set id .dead⟩ else none
      | _ => none
    | _, _ => none
  | .srt => if srtB σ.env = true then some σ else none
  | op => (σ.pure op).map (σ.setD dst)

/-- One operation has been done. -/
def Did (P : Program) (E : Entry) (n : Nat) (a : Act) (w : World) (o : Oper) (σ' : State) : Prop :=
  ∃ x w' g', ((execOp a.eval o).run P w = .ok (.value x) w' ∨ ((execOp a.eval o).run P w = .ok .skip w' ∧ x = undef)) ∧ St E n σ' (a.put o.dst x) w' g'

section
variable {P : Program} {E : Entry} {n : Nat} {σ σ' : State} {a : Act} {w : World} {g : Gh} {tk : List Nat} {v : AV}
  {dst : Option Nat} {type : Nat} {pos : String} {after : Array Edge} {guard : Option (Nat × Bool)} {iop : IOp}

/-- A source of an append: what it reads as, and who owns it. -/
theorem raw_rel (h : St E n σ a w g) {ty : Nat} {x : Operand} {y : Opd} (hc : cOpd P ty x = some y) {u : AV} (hu : σ.raw y = some u) : ∃ g', St E n (σ.take y) a w g' ∧ g'.L = g.L ∧ g'.β = g.β ∧ (∀ b, g.ow b = none → g'.ow b = none) ∧
    ((∃ s, y = .t s ∧ VRel w g 0 s u (a.eval x) ∧ ∀ b i j, g.ow b = some (0, s, i, j) → g'.ow b = none) ∨ (u.share = u ∧ ∀ k t, VRel w g k t u (a.eval x))) := by
  unfold cOpd at hc
  split at hc
  · rename_i s
    obtain rfl := Option.some.inj hc
    have hu' : look σ.env s = some u := hu
    refine ⟨g.re (dropP s), by simpa [State.take, hu'] using h.drop hu', rfl, rfl, fun b hb => by simp [Gh.re, hb], .inl ⟨s, rfl, (h.env s u hu').2, fun b i j hb => by simp [Gh.re, hb, dropP]⟩⟩
  · obtain ⟨v, hv, rfl⟩ := Option.map_eq_some_iff.1 hc
    obtain rfl := Option.some.inj hu
    exact ⟨g, h, rfl, rfl, fun b hb => hb, .inr ⟨(cVal_rel hv w g 0 0).2, fun k t => (cVal_rel hv w g k t).1⟩⟩
  · obtain rfl := Option.some.inj hc
    obtain rfl := Option.some.inj hu
    exact ⟨g, h, rfl, rfl, fun b hb => hb, .inr ⟨rfl, fun k t => .s (.c (.fn #[] rfl (by simp) (by simp)))⟩⟩
  · cases hc

theorem append_sound (h : St E n σ a w g) {t u ty e : Nat} {i : TypeInfo} {z : Value} (ht : P.underlying t = some (.slice e)) (hu : (∃ e', P.underlying u = some (.slice e')) ∨ P.underlying u = some .string) (hi : P.info? e = some i) (hz : i.zero = some z) (hzs : z.cells.size = i.size)
    {ts : Nat} {s : Operand} {s' : Opd} (hs : cOpd P ts s = some s') {lv : Nat} {xs ys : List (List AC)} (hraw : σ.raw s' = some (.c (.list lv i.size xs))) (hlv : 1 ≤ lv ∧ lv ≤ 2) {x : Value} {news : List Value} (hsrc : Src P w i.size ys.length x news)
    (hyl : ∀ y ∈ ys, y.length = i.size) (hyr : ∀ k y, ys[k]? = some y → ∀ j a, y[j]? = some a → ∃ u, news[k * i.size + j]? = some u ∧ CRel w g.L a u) (hb : (xs.length + ys.length) * i.bytes ≤ 140737488355328) (h63 : xs.length + ys.length ≤ 9223372036854775807) {d : Nat} (hd : d < n) :
    ∃ y w' g', (Builtin.append_ #[t, u] ty #[a.eval s, x]).run P w = .ok y w' ∧ St E n ⟨AI.put (σ.take s').env d (.c (.list 2 i.size (xs ++ ys))), σ.heap⟩ (a.put (some d) y) w' g' := by
  obtain ⟨g1, h1, hL, hβ, hn1, hside⟩ := raw_rel h hs hraw
  have hheap : (σ.take s').heap = σ.heap := by
    cases s' with
    | t q => simp only [State.take]; split <;> rfl
    | c q => rfl
  rw [← hheap]
  have hm63 : xs.length + ys.length ≤ maxLen := by simp only [maxLen]; omega
  -- a source whose capacity is its length
  have capped : CRel w g.L (.list 1 i.size xs) (a.eval s) → ∃ y w' g', (Builtin.append_ #[t, u] ty #[a.eval s, x]).run P w = .ok y w' ∧ St E n ⟨AI.put (σ.take s').env d (.c (.list 2 i.size (xs ++ ys))), (σ.take s').heap⟩ (a.put (some d) y) w' g' := by
    intro hc
    obtain ⟨olds, osrc, oxl, oxr⟩ := Src.list (P := P) hc
    have hform : ∃ A, a.eval s = .slice A xs.length xs.length := by
      generalize a.eval s = sv at hc
      cases hc with
      | nil _ _ A c q1 q2 => exact ⟨A, by rw [q2 rfl]; rfl⟩
      | list _ _ _ b o nn c vs q1 q2 qn => exact ⟨_, by rw [q2 rfl, qn]⟩
    obtain ⟨A, hA⟩ := hform
    rcases Nat.eq_zero_or_pos ys.length with h0 | h0
    · have hy0 : ys = [] := List.eq_nil_of_length_eq_zero h0
      subst hy0
      refine ⟨a.eval s, w, g1, by rw [hA]; exact run_app_same ht hu hi hsrc A _ _ (Nat.le_refl _), ?_⟩
      rw [List.append_nil]
      exact h1.put hd (.s (.c (.capped (by rw [hL]; exact hc))))
    · have hrun := run_app_grow (ty := ty) ht hu hi hz hsrc A xs.length xs.length olds (fun w' hw => by rw [← hA]; exact osrc.cells w' hw) (by omega) h63 hb
      obtain ⟨g2, h2⟩ := h1.grown (e := e) (esz := i.size) (zs := xs ++ ys) (olds := olds) (news := news) (z := z) (cap := grownCap w (xs.length + ys.length) xs.length e) (need := xs.length + ys.length) (by simp) (grownCap_ge _ _ _ _) (grownCap_le_maxLen _ _ _ _ hm63) hzs
        (by rw [List.length_append, osrc.num, hsrc.num, Nat.add_mul]) (fun q hq => (List.mem_append.1 hq).elim (oxl q) (hyl q)) (by rw [hL]; exact rows_append osrc.num oxl oxr hyr) hd
      exact ⟨_, _, g2, by rw [hA]; exact hrun, h2⟩
  -- a row of its own
  have owned : ∀ (p : Place) (us : List Value) (e0 : Nat), w.ownsRow 0 e0 i.size (a.eval s) xs.length us → (∀ x ∈ xs, x.length = i.size) → (∀ k x, xs[k]? = some x → ∀ j a, x[j]? = some a → ∃ u, us[k * i.size + j]? = some u ∧ CRel w g.L a u) →
      (∀ b, (a.eval s).ownBlock = some b → g.ow b = some p ∧ g.L b = xs.length * i.size) → (∀ b, g.ow b = some p → g1.ow b = none) → ∃ y w' g', (Builtin.append_ #[t, u] ty #[a.eval s, x]).run P w = .ok y w' ∧ St E n ⟨AI.put (σ.take s').env d (.c (.list 2 i.size (xs ++ ys))), (σ.take s').heap⟩ (a.put (some d) y) w' g' := by
    intro p us e0 hown hxl hxr how hdrop
    rcases hown.2 with ⟨hnil, hn0⟩ | ⟨b, cap, cur, hv, _, hcell, hnc, hcm, hcs, htake⟩
    · exact capped (by
        have hx0 : xs = [] := List.eq_nil_of_length_eq_zero hn0
        subst hx0
        rw [hnil]
        exact .nil 1 i.size none 0 (by omega) (by simp))
    · have hob : (a.eval s).ownBlock = some b := by rw [hv]; rfl
      obtain ⟨ho, hLb⟩ := how b hob
      have hnone := hdrop b ho
      have hH : ∀ id q, (σ.take s').heap[id]? = some q → q.live = true → g1.β id ≠ b := fun id q hq hl he => by
        rw [hheap] at hq
        have := ((h.heap.rel id q hq).lt hl).2.2
        rw [hβ] at he
        rw [he, ho] at this; cases this
      have hE := h.baseO b p ho
      have hul : us.length = xs.length * i.size := hown.1
      by_cases hroom : xs.length + ys.length ≤ cap
      · have hnl : news.length = ys.length * i.size := hsrc.num
        have hfit : xs.length * i.size + news.length ≤ cur.size := by
          rw [hnl, hcs, ← Nat.add_mul]; exact Nat.mul_le_mul_right _ hroom
        have hrun := run_app_room (ty := ty) ht hu hi hsrc b xs.length cap e0 cur hcell hroom hfit
        obtain ⟨g2, h2⟩ := h1.room (e := e0) (esz := i.size) (b := b) (c := cap) (cur := cur) (xs := xs) (ys := ys) (us := us) (news := news) hcell hnone hH hE (by rw [hL]; exact hLb) hroom hcm hcs htake hnl hul
          (fun q hq => (List.mem_append.1 hq).elim (hxl q) (hyl q)) (by rw [hL]; exact rows_append hul hxl hxr hyr) hd
        exact ⟨_, _, g2, by rw [hv]; exact hrun, h2⟩
      · have holds : ∀ w' : World, w'.heap = w.heap → (Builtin.firstCells i.size xs.length (.slice (some ⟨b, 0, none⟩) xs.length cap)).run P w' = .ok us.toArray w' := fun w' hw =>
          run_firstCells_some (P := P) w' i.size xs.length ⟨b, 0, none⟩ xs.length cap us hul (fun j q hq => by
            have hcell' : ∀ a, w'.cell? a = w.cell? a := fun a => by simp [World.cell?, hw]
            rw [hcell']; exact hown.cells (g := b) hob j q hq)
        have hrun := run_app_grow (ty := ty) ht hu hi hz hsrc (some ⟨b, 0, none⟩) xs.length cap us holds (by omega) h63 hb
        obtain ⟨g2, h2⟩ := h1.grown (e := e) (esz := i.size) (zs := xs ++ ys) (olds := us) (news := news) (z := z) (cap := grownCap w (xs.length + ys.length) cap e) (need := xs.length + ys.length) (by simp) (grownCap_ge _ _ _ _) (grownCap_le_maxLen _ _ _ _ hm63) hzs
          (by rw [List.length_append, hul, hsrc.num, Nat.add_mul]) (fun q hq => (List.mem_append.1 hq).elim (hxl q) (hyl q)) (by rw [hL]; exact rows_append hul hxl hxr hyr) hd
        exact ⟨_, _, g2, by rw [hv]; exact hrun, h2⟩
  rcases hside with ⟨q, rfl, hrel, hdrop⟩ | ⟨hsh, hrel⟩
  · have hx := hrel.c_inv
    obtain ⟨sv, hsv⟩ : ∃ sv, sv = a.eval s := ⟨_, rfl⟩
    rw [← hsv] at hx
    cases hx with
    | pure hc => exact capped (by
        have : lv = 1 := by
          have := hc.pure
          simp [AC.pure] at this; omega
        subst this; rw [← hsv]; exact hc)
    | capped hc => exact capped (by rw [← hsv]; exact hc)
    | own us q1 q2 q3 q4 => exact owned (0, q, 0, 0) us _ (by rw [← hsv]; exact q1) q2 q3 (by rw [← hsv]; exact q4) (fun b hb => hdrop b 0 0 hb)
  · have hx := (hrel 0 0).c_inv
    have hlv2 : lv ≠ 2 := by rintro rfl; simp [AV.share, AC.share] at hsh
    have : lv = 1 := by omega
    subst this
    exact capped (hx.toC rfl)
end
end Go.AI

set_option linter.unusedVariables false
set_option linter.unusedSimpArgs false
namespace Go.AI
open Go Go.RowKit Go.Lib

theorem CsRel.ext {N : Nat → Prop} {w w' : World} {g g' : Gh} (e : GExt N w g w' g') (ho : ∀ b p, b < w.heap.size → g.ow b = some p → ¬ N b ∧ g'.ow b = some p) {cs : List AC} {vs : Array Value} (h : CsRel w g cs vs) : CsRel w' g' cs vs :=
  ⟨h.1, fun j a ha q => (h.2 j a ha q).ext e fun b hb hp => ho b _ hb hp⟩

section
variable {P : Program} {E : Entry} {n : Nat} {σ σ' : State} {a : Act} {w : World} {g : Gh} {tk : List Nat} {v : AV}
  {dst : Option Nat} {type : Nat} {pos : String} {after : Array Edge} {guard : Option (Nat × Bool)} {iop : IOp}

/-- A new block that the heap lists. -/
def Gh.more (g : Gh) (b cap : Nat) : Gh := { g with m := g.m + 1, β := fun id => if id = g.m then b else g.β id, cap := fun id => if id = g.m then cap else g.cap id }
theorem GExt.more (w : World) (g : Gh) (b cap : Nat) (o : Obj) : GExt (fun _ => False) w g (w.alloc o) (g.more b cap) :=
  ⟨⟨rfl, rfl, rfl, by rw [alloc_size]; omega, fun x hx _ => heap_alloc_old w o x hx, fun x hx _ => rfl, fun x j v ho hv => alloc_cell o hv, fun x => Nat.le_refl _⟩, Nat.le_succ _, fun id h => by simp [Gh.more]; omega, fun id h => by simp [Gh.more]; omega⟩

theorem St.allocH (h : St E n σ a w g) (o : Obj) (k : Blk) (cap : Nat) (hk : HRel (w.alloc o) (g.more w.heap.size cap) g.m k) : St E n ⟨σ.env, σ.heap ++ [k]⟩ a (w.alloc o) (g.more w.heap.size cap) := by
  have e := GExt.more w g w.heap.size cap o
  have ho : ∀ b p, b < w.heap.size → g.ow b = some p → ¬ False ∧ (g.more w.heap.size cap).ow b = some p := fun b p _ hp => ⟨fun h => h, hp⟩
  have hm : (g.more w.heap.size cap).β g.m = w.heap.size := by simp [Gh.more]
  have get : ∀ id q, (σ.heap ++ [k])[id]? = some q → (id < g.m ∧ σ.heap[id]? = some q) ∨ (id = g.m ∧ q = k) := fun id q hq => by
    by_cases hid : id < σ.heap.length
    · rw [List.getElem?_append_left hid] at hq
      exact .inl ⟨by rw [← h.heap.len]; exact hid, hq⟩
    · rw [List.getElem?_append_right (by omega)] at hq
      have : id - σ.heap.length = 0 := by
        cases hz : id - σ.heap.length with
        | zero => rfl
        | succ z => rw [hz] at hq; simp at hq
      rw [this] at hq
      simp at hq
      exact .inr ⟨by rw [← h.heap.len]; omega, hq.symm⟩
  refine ⟨h.defers, h.size, fun t v hv => ?_, ⟨by simp [h.heap.len, Gh.more], fun id q hq => ?_, fun id id' q q' h1 h2 h3 h4 h5 => ?_, fun b hb => ?_⟩, fun id q hq hl => ?_, fun b p hp => h.baseO b p hp, ?_⟩
  · obtain ⟨h1, h2⟩ := h.env t v hv
    exact ⟨h1, h2.ext e fun b i j hb hp => ho b _ hb hp⟩
  · rcases get id q hq with ⟨hid, hq⟩ | ⟨rfl, rfl⟩
    · exact (h.heap.rel id q hq).ext e hid (fun hl => ⟨((h.heap.rel id q hq).lt hl).1, fun h => h, ((h.heap.rel id q hq).lt hl).2.2⟩) fun b i j hb hp => ho b _ hb hp
    · exact hk
  · rcases get id q h1 with ⟨hid, hq⟩ | ⟨rfl, rfl⟩ <;> rcases get id' q' h2 with ⟨hid', hq'⟩ | ⟨rfl, rfl⟩
    · rw [e.β id hid, e.β id' hid'] at h5
      exact h.heap.inj id id' q q' hq hq' h3 h4 h5
    · rw [e.β id hid, hm] at h5
      have := ((h.heap.rel id q hq).lt h3).1; omega
    · rw [e.β id' hid', hm] at h5
      have := ((h.heap.rel id' q' hq').lt h4).1; omega
    · rfl
  · rw [alloc_size] at hb
    exact h.heap.lim b (by omega)
  · rcases get id q hq with ⟨hid, hq⟩ | ⟨rfl, rfl⟩
    · rw [e.β id hid]; exact h.baseH id q hq hl
    · rw [hm]; exact .inl h.evo.size
  · exact h.evo.trans e fun _ _ h => h.elim

theorem St.newCells (h : St E n σ a w g) {cs : List AC} {vs : Array Value} {T : Nat} (hr : CsRel w g cs vs) {d : Nat} (hd : d < n) :
    ∃ g', St E n ⟨AI.put σ.env d (.c (.ptr (some (σ.heap.length, 0)))), σ.heap ++ [.cells cs]⟩ (a.put (some d) (.pointer (some ⟨w.heap.size, 0, none⟩))) (w.alloc (.cells vs T)) g' := by
  have e := GExt.more w g w.heap.size 0 (.cells vs T)
  have hm : (g.more w.heap.size 0).β g.m = w.heap.size := by simp [Gh.more]
  obtain ⟨hL, hO⟩ := h.heap.lim w.heap.size (Nat.le_refl _)
  have hr' := hr.ext e fun b p _ hp => ⟨fun h => h, hp⟩
  have h1 := h.allocH (.cells vs T) (.cells cs) 0 (.cells (vs := vs) (T := T) (by rw [hm]; exact heap_alloc_new w _) hr.1 (fun j c hc => hr'.2 j c hc _) (by rw [hm]; exact hL) (by rw [hm]; exact hO))
  refine ⟨_, h1.put hd (.s (.c ?_))⟩
  have hp := XRel.ptr (w := w.alloc (.cells vs T)) (g := g.more w.heap.size 0) (p := (0, d, 0, 0)) (id := g.m) (off := 0) (Nat.lt_succ_self _)
  rw [hm] at hp
  rw [h.heap.len]
  exact hp

theorem chunk_get : ∀ (m k : Nat) (l : List AC), l.length = m * k → (chunk m k l).length = m ∧ (∀ x ∈ chunk m k l, x.length = k) ∧ ∀ i x, (chunk m k l)[i]? = some x → ∀ j a, x[j]? = some a → ∃ b, l[i * k + j]? = some b ∧ a = b.norm := by
  intro m
  induction m with
  | zero => intro k l _; simp [chunk]
  | succ m ih =>
    intro k l hl
    rw [Nat.add_mul, Nat.one_mul] at hl
    obtain ⟨h1, h2, h3⟩ := ih k (l.drop k) (by simp; omega)
    refine ⟨by simp [chunk, h1], fun x hx => ?_, fun i x hx j a ha => ?_⟩
    · simp only [chunk, List.mem_cons] at hx
      rcases hx with rfl | hx
      · simp; omega
      · exact h2 x hx
    · cases i with
      | zero =>
        simp only [chunk, List.getElem?_cons_zero, Option.some.injEq] at hx
        subst hx
        simp only [List.getElem?_map, List.getElem?_take] at ha
        obtain ⟨b, hb, rfl⟩ := Option.map_eq_some_iff.1 ha
        split at hb
        · exact ⟨b, by simpa using hb, rfl⟩
        · cases hb
      | succ i =>
        simp only [chunk, List.getElem?_cons_succ] at hx
        obtain ⟨b, hb, rfl⟩ := h3 i x hx j a ha
        refine ⟨b, ?_, rfl⟩
        rw [List.getElem?_drop] at hb
        rw [Nat.add_mul, Nat.one_mul, ← hb]
        congr 1; omega

theorem zero_rows (z : Array Value) (m : Nat) (hz : 0 < z.size) : ((Array.range (m * z.size)).map (z[· % z.size]!)).size = m * z.size ∧ ∀ j, j < m * z.size → ((Array.range (m * z.size)).map (z[· % z.size]!)).getD j undef = z.getD (j % z.size) undef := by
  refine ⟨by simp, fun j hj => ?_⟩
  have hlt : j % z.size < z.size := Nat.mod_lt _ hz
  simp [Array.getD_eq_getD_getElem?, hj, getElem!_pos z (j % z.size) hlt, hlt]

theorem bslv_up {p : Place} {esz len : Nat} {xs : List (List AC)} {A : Option Addr} (h0 : len = 0 → xs = []) (h : XRel w g p (.list 2 esz xs) (.slice A len len)) : XRel w g p (.list (bslv len) esz xs) (.slice A len len) := by
  unfold bslv
  split
  · rename_i e; subst e
    rw [h0 rfl]; exact .pure (.nil 1 esz A 0 (by omega) (fun _ => rfl))
  · exact h
theorem bsl_sound (h : St E n σ a w g) {t len : Nat} {parts : Array (Nat × Operand)} {d : Nat} (hd : d < n) (hc : cOp P tk ⟨some d, .buildSlice t len parts, type, pos, after, guard⟩ = some iop) (hv : σ.step (some d) iop = some σ') :
    Did P E n a w ⟨some d, .buildSlice t len parts, type, pos, after, guard⟩ σ' := by
  simp only [cOp] at hc
  split at hc
  · rename_i e hu
    split at hc
    · rename_i z i hz hi
      split at hc
      · rename_i hsz
        obtain ⟨hpos, hle⟩ := hsz
        obtain ⟨parts', hp, rfl⟩ := Option.map_eq_some_iff.1 hc
        simp only [State.step] at hv
        split at hv
        · rename_i fl d' hf hd'
          injection hd' with hd'; subst hd'
          split at hv
          · rename_i hpure
            obtain rfl := Option.some.inj hv
            obtain ⟨zv, i', hi', hiz, hisz, hzs, hzr, hzx⟩ := zeroOf_rel hz
            rw [hi] at hi'; obtain rfl := Option.some.inj hi'
            obtain ⟨hrs, hrg⟩ := zero_rows zv.cells len (by omega)
            have hflat : (List.replicate len z).flatten.length = len * i.size := by simp [hisz]
            have h0 : CsRel w g (List.replicate len z).flatten ((Array.range (len * zv.cells.size)).map (zv.cells[· % zv.cells.size]!)) := by
              refine ⟨by rw [hrs, hflat, hzs, hisz], fun j c hj q => ?_⟩
              have hjl : j < len * zv.cells.size := by
                have := (List.getElem?_eq_some_iff.1 hj).1
                rw [hflat, hisz, ← hzs] at this; exact this
              rw [hrg j hjl]
              have hzl : 0 < z.length := by omega
              have hx : (List.replicate len z).flatten[j]? = z[j % z.length]? := by
                have hq : j / z.length < len := by rw [Nat.div_lt_iff_lt_mul hzl, ← hzs]; exact hjl
                have hrow : (List.replicate len z)[j / z.length]? = some z := by simp [List.getElem?_replicate, hq]
                have hlt := Nat.mod_lt j hzl
                have := (flat_at (esz := z.length) (fun x hx => by rw [List.eq_of_mem_replicate hx]) hrow (List.getElem?_eq_getElem hlt)).2
                rw [Nat.div_add_mod'] at this
                rw [this, List.getElem?_eq_getElem hlt]
              rw [hx] at hj
              rw [hzs]
              exact (hzx w g q _ c hj).1
            obtain ⟨vs, hvs, hr⟩ := fillC_sound (P := P) (place := fun k => some (k * i.size, i.size)) h (fun k o m t hk => by
              simp only [Option.some.injEq, Prod.mk.injEq] at hk ⊢
              exact ⟨hk.1, hk.2.1⟩) parts.toList parts' _ fl _ hp hf h0
            have hfl : fl.length = len * i.size := by
              have h1 := fill_size hvs
              rw [hr.1, h1, hrs, hzs, hisz]
            obtain ⟨c1, c2, c3⟩ := chunk_get len i.size fl hfl
            have hrun : (execOp a.eval ⟨some d, .buildSlice t len parts, type, pos, after, guard⟩).run P w = .ok (.value (.slice (some ⟨w.heap.size, 0, none⟩) len len)) (w.alloc (.cells vs e)) := by
              have hne : ¬ (len * i.size > 2 ^ 24) := by
                have : (1000 : Nat) < 2 ^ 24 := by decide
                omega
              have hszz : zv.cells.size = i.size := by rw [hzs, hisz]
              by_cases hl0 : len * i.size = 0
              · have h1 : ((Array.range (len * zv.cells.size)).map (zv.cells[· % zv.cells.size]!)) = (Array.map (fun _ : Nat => (default : Value)) (Array.range 0)) := by rw [hszz, hl0]; simp
                rw [h1] at hvs
                simp [execOp, Instr.buildSlice, run_underlying hu, sizeOf, typeInfo, hi, hl0, newRow, hvs]
              · have h1 : ((Array.range (len * zv.cells.size)).map (zv.cells[· % zv.cells.size]!)) = Array.map (fun x => zv.cells[x % zv.cells.size]!) (Array.range (len * i.size)) := by rw [← hszz]
                rw [h1] at hvs
                simp [execOp, Instr.buildSlice, run_underlying hu, sizeOf, typeInfo, hi, hne, hl0, hzr, newRow, hvs]
            have h2 := h.alloc0 (.cells vs e) (len * i.size)
            have h3 := h2.give (b := w.heap.size) (0, d, 0, 0) (by rw [alloc_size]; omega) (h.heap.lim _ (Nat.le_refl _)).2 (fun id k hk hl => by
              have := ((h.heap.rel id k hk).lt hl).1
              intro e; simp only [Gh.setL] at e; omega) (.inl h.evo.size)
            refine ⟨_, _, _, .inl hrun, h3.put hd (.s (.c (bslv_up (fun e0 => List.eq_nil_of_length_eq_zero (by rw [c1, e0])) (.own vs.toList (e := e) ?_ c2 (fun k x hx j c hcc => ?_) (fun b hb => ?_)))))⟩
            · rw [c1]
              refine ⟨by have := hr.1; simp; omega, .inr ⟨w.heap.size, len, vs, rfl, Nat.zero_le _, heap_alloc_new _ _, Nat.le_refl _, ?_, by have := hr.1; omega, ?_⟩⟩
              · have hll : len ≤ len * i.size := Nat.le_mul_of_pos_right _ hpos
                simp only [maxLen]; omega
              · rw [List.take_of_length_le]
                have := hr.1; simp; omega
            · obtain ⟨b, hb, rfl⟩ := c3 k x hx j c hcc
              have hbl : k * i.size + j < vs.size := by rw [← hr.1]; exact (List.getElem?_eq_some_iff.1 hb).1
              have hbp : b.pure = true := List.all_eq_true.1 hpure b (List.mem_of_getElem? hb)
              have hx2 := (hr.2 _ b hb (0, 0, 0, 0)).toC hbp
              refine ⟨vs.getD (k * i.size + j) undef, by simp [Array.getD_eq_getD_getElem?, hbl], hx2.normed.keep (fun b o v ho hv => alloc_cell _ hv) (fun b => ?_)⟩
              simp only [Gh.give, Gh.setL]
              split
              · rename_i e'; rw [e', (h.heap.lim _ (Nat.le_refl _)).1]; exact Nat.zero_le _
              · exact Nat.le_refl _
            · simp only [Value.ownBlock, Option.some.injEq] at hb
              subst hb
              exact ⟨by simp [Gh.give], by simp [Gh.give, Gh.setL, c1]⟩
          · cases hv
        · cases hv
      · cases hc
    · cases hc
  · cases hc
end
end Go.AI

set_option linter.unusedVariables false
set_option linter.unusedSimpArgs false
namespace Go.AI
open Go Go.RowKit Go.Lib

section
variable {P : Program} {E : Entry} {n : Nat} {σ σ' : State} {a : Act} {w : World} {g : Gh} {tk : List Nat} {v : AV}
  {dst : Option Nat} {type : Nat} {pos : String} {after : Array Edge} {guard : Option (Nat × Bool)} {iop : IOp}

theorem alloc_sound (h : St E n σ a w g) {e : Nat} {d : Nat} (hd : d < n) {z : List AC} (hz : zeroOf P e = some z) :
    Did P E n a w ⟨some d, .alloc e, type, pos, after, guard⟩ ⟨AI.put σ.env d (.c (.ptr (some (σ.heap.length, 0)))), σ.heap ++ [.cells z]⟩ := by
  obtain ⟨zv, i, hi, hiz, hsz, hzs, hzr, hzx⟩ := zeroOf_rel hz
  obtain ⟨g', h1⟩ := h.newCells (cs := z) (vs := zv.cells) (T := e) ⟨hzs.symm, fun j c hj q => (hzx w g q j c hj).1⟩ hd
  exact ⟨_, _, g', .inl (by simp [execOp, Instr.alloc, hzr, newVar, newRow]), h1⟩

theorem box_sound (h : St E n σ a w g) {e ty : Nat} {d : Nat} (hd : d < n) {x : Operand} {x' : Opd} (hx : cOpd P ty x = some x') (hv : σ.step (some d) (.box x') = some σ') : Did P E n a w ⟨some d, .box e x, type, pos, after, guard⟩ σ' := by
  simp only [State.step] at hv
  split at hv
  · rename_i c d' hc hd'
    injection hd' with hd'; subst hd'
    obtain rfl := Option.some.inj hv
    have hr := fun k t => (ev_rel h hx hc k t).c_inv
    have hone := (hr 0 0).one
    obtain ⟨g', h1⟩ := h.newCells (cs := [c]) (vs := #[a.eval x]) (T := e) ⟨rfl, fun j c' hj q => by
      cases j with
      | zero => simp at hj; subst hj; simpa using (hr 0 0).place (q := q) (ev_share h hx hc)
      | succ j => simp at hj⟩ hd
    exact ⟨_, _, g', .inl (by simp [execOp, Instr.box, newVar, newRow, hone.2]), h1⟩
  · rename_i cs d' hc hd'
    injection hd' with hd'; subst hd'
    obtain rfl := Option.some.inj hv
    obtain ⟨ws, hws, hr⟩ := ev_agg h hx hc
    obtain ⟨g', h1⟩ := h.newCells (cs := cs) (vs := ws) (T := e) hr hd
    exact ⟨_, _, g', .inl (by simp [execOp, Instr.box, newVar, newRow, hws, Value.cells]), h1⟩
  · cases hv

theorem movT_sound (h : St E n σ a w g) {s d : Nat} (hd : d < n) (hv : σ.step (some d) (.movT s) = some σ') :
    Did P E n a w ⟨some d, .move (.tmp s), type, pos, after, guard⟩ σ' ∧ Did P E n a w ⟨some d, .assign (.tmp s), type, pos, after, guard⟩ σ' := by
  simp only [State.step] at hv
  split at hv
  · rename_i u d' hu hd'
    injection hd' with hd'; subst hd'
    split at hv
    · rename_i hne
      obtain rfl := Option.some.inj hv
      have h1 := h.movT hu hd hne
      exact ⟨⟨_, _, _, .inl rfl, h1⟩, ⟨_, _, _, .inl rfl, h1⟩⟩
    · cases hv
  · cases hv

/-- A cell of a listed block is taken out. -/
theorem loadT_sound (h : St E n σ a w g) {t ty d : Nat} (hd : d < n) (ha : aggOf P t = some none) {x : Operand} {x' : Opd} (hx : cOpd P ty x = some x') (hv : σ.step (some d) (.loadT x') = some σ') : Did P E n a w ⟨some d, .load t x, type, pos, after, guard⟩ σ' := by
  simp only [State.step] at hv
  split at hv
  · rename_i id off d' hp hd'
    injection hd' with hd'; subst hd'
    obtain ⟨hid, hpe⟩ := (ev_rel h hx hp 0 0).c_inv.ptr_inv
    split at hv
    · rename_i cs hcs
      split at hv
      · rename_i c hc
        obtain rfl := Option.some.inj hv
        have hH := h.heap.rel _ _ hcs
        cases hH with
        | cells h2 h3 h4 h5 h6 =>
          rename_i vs T
          have hlt : off < vs.size := by rw [← h3]; exact (List.getElem?_eq_some_iff.1 hc).1
          have hcell : w.cell? ⟨g.β id, off, none⟩ = some (vs.getD off undef) := by
            rw [cell_of_row w _ _ _ _ _ h2]
            simp [Array.getD_eq_getD_getElem?, Array.getElem?_eq_getElem hlt]
          have hrun : (execOp a.eval ⟨some d, .load t x, type, pos, after, guard⟩).run P w = .ok (.value (vs.getD off undef)) w := by
            obtain ⟨q1, _⟩ := run_isAgg ha w
            simp [execOp, Instr.loadAt, hpe, Instr.sureAddr, loadVar, q1, load, Sem.run, hcell]
          let rm : Place → Option Place := fun p => if p = (1, id, 0, off) then some (0, d, 0, 0) else some p
          have e := GExt.re w g rm
          have hko : ∀ p q b, p ≠ (1, id, 0, off) → b < w.heap.size → g.ow b = some p → p = q → ¬ False ∧ (g.re rm).ow b = some q := fun p q b hne _ hp hq => ⟨fun h => h, by rw [← hq]; exact re_some hp (by simp [rm, hne])⟩
          have h1 : St E n ⟨σ.env, σ.heap.set id (.cells (cs.set off c.share))⟩ a w (g.re rm) := by
            have gm : ∀ id' q, (σ.heap.set id (.cells (cs.set off c.share)))[id']? = some q → (id' ≠ id ∧ σ.heap[id']? = some q) ∨ (id' = id ∧ q = .cells (cs.set off c.share)) := fun id' q hq => by
              by_cases he : id = id'
              · subst he
                have hlt' : id < σ.heap.length := (List.getElem?_eq_some_iff.1 hcs).1
                rw [List.getElem?_set_self hlt'] at hq
                exact .inr ⟨rfl, (Option.some.inj hq).symm⟩
              · rw [List.getElem?_set_ne he] at hq
                exact .inl ⟨fun h => he h.symm, hq⟩
            have old : ∀ id' (q : Blk), (σ.heap.set id (.cells (cs.set off c.share)))[id']? = some q → q.live = true → ∃ q' : Blk, σ.heap[id']? = some q' ∧ q'.live = true := fun id' q hq hl => by
              rcases gm id' q hq with ⟨_, h⟩ | ⟨rfl, _⟩
              · exact ⟨q, h, hl⟩
              · exact ⟨_, hcs, rfl⟩
            refine ⟨h.defers, h.size, fun t u hu => ?_, ⟨by simp [h.heap.len, Gh.re], fun id' q hq => ?_, fun id1 id2 q1 q2 g1 g2 g3 g4 g5 => ?_, fun b hb => ?_⟩, fun id' q hq hl => ?_, fun b p hp => ?_, h.evo.cast rfl rfl rfl rfl⟩
            · obtain ⟨g1, g2⟩ := h.env t u hu
              exact ⟨g1, g2.ext e fun b i j hb hp => hko _ _ b (by simp) hb hp rfl⟩
            · rcases gm id' q hq with ⟨hne, hq⟩ | ⟨rfl, rfl⟩
              · have hid' : id' < g.m := by rw [← h.heap.len]; exact (List.getElem?_eq_some_iff.1 hq).1
                refine (h.heap.rel id' q hq).ext e hid' (fun hl => ?_) fun b i j hb hp => hko _ _ b (by simp [hne]) hb hp rfl
                have := (h.heap.rel id' q hq).lt hl
                exact ⟨this.1, fun h => h, by simp [Gh.re, this.2.2]⟩
              · refine .cells (vs := vs) (T := T) h2 (by simpa using h3) (fun j u hj => ?_) h5 (by simp [Gh.re, h6])
                by_cases hjo : off = j
                · subst hjo
                  have hl : off < cs.length := by rw [h3]; exact hlt
                  rw [List.getElem?_set_self hl] at hj
                  obtain rfl := Option.some.inj hj
                  exact ((h4 off c hc).share (q := (1, id', 0, off))).extS e (AC.share_share c)
                · rw [List.getElem?_set_ne hjo] at hj
                  exact (h4 j u hj).ext e fun b hb hp => hko _ _ b (by simp; omega) hb hp rfl
            · obtain ⟨q1', k1, k2⟩ := old id1 q1 g1 g3
              obtain ⟨q2', k3, k4⟩ := old id2 q2 g2 g4
              exact h.heap.inj id1 id2 q1' q2' k1 k3 k2 k4 g5
            · obtain ⟨k1, k2⟩ := h.heap.lim b hb
              exact ⟨k1, by simp [Gh.re, k2]⟩
            · obtain ⟨q', k1, k2⟩ := old id' q hq hl
              exact h.baseH id' q' k1 k2
            · obtain ⟨q, hq, _⟩ := Option.bind_eq_some_iff.1 hp
              exact h.baseO b q hq
          refine ⟨_, _, _, .inl hrun, h1.put hd (.s (.c ((h4 off c hc).ext e fun b hb hp => ⟨fun h => h, re_some hp (by simp [rm])⟩)))⟩
      · cases hv
    · cases hv
  · cases hv

theorem s2b_sound (h : St E n σ a w g) {src dt e d : Nat} (hd : d < n) (hs : P.underlying src = some .string) (ht : P.underlying dt = some (.slice e)) (he : P.underlying e = some (.int .u8)) (hz : szOf P e = some 1) {x : Operand} {x' : Opd} (hx : cOpd P src x = some x') (hv : σ.step (some d) (.s2b e x') = some σ') :
    Did P E n a w ⟨some d, .convert src dt x, type, pos, after, guard⟩ σ' := by
  simp only [State.step] at hv
  split at hv
  · rename_i s d' hp hd'
    injection hd' with hd'; subst hd'
    split at hv
    · rename_i hsz
      obtain rfl := Option.some.inj hv
      have es := (ev_rel h hx hp 0 0).c_inv.str_inv
      have hcap := grownCap_ge w s.size 0 e
      have hrun : (execOp a.eval ⟨some d, .convert src dt x, type, pos, after, guard⟩).run P w = .ok (.value (.slice (some ⟨w.heap.size, 0, none⟩) s.size (grownCap w s.size 0 e))) (bytesWorld w e s) := by
        simp [execOp, es, run_convert_string_bytes w src dt e s hs ht he]
      have hlim := h.heap.lim
      have ho0 : (bytesWorld w e s).os = w.os ∧ (bytesWorld w e s).tape = w.tape ∧ (bytesWorld w e s).output = w.output := by
        unfold bytesWorld World.freeze; split <;> exact ⟨rfl, rfl, rfl⟩
      have hcell : ∀ b o v, w.cell? ⟨b, o, none⟩ = some v → (bytesWorld w e s).cell? ⟨b, o, none⟩ = some v := fun b o v hv => by
        rw [bytesWorld_old w e s _ (World.block_lt_of_cell? w _ hv)]; exact hv
      have hmono : ∀ b, g.L b ≤ (g.setL w.heap.size s.size).L b := fun b => by
        simp only [Gh.setL]
        split
        · rename_i e'; rw [e', (hlim _ (Nat.le_refl _)).1]; exact Nat.zero_le _
        · exact Nat.le_refl _
      have h1 : St E n σ a (bytesWorld w e s) (g.setL w.heap.size s.size) := by
        refine h.ext (N := fun _ => False) ⟨⟨ho0.1, ho0.2.1, ho0.2.2, by rw [bytesWorld_size]; omega, fun b hb _ => bytesWorld_at_old w e s b hb, fun b hb _ => ?_, fun b o v _ hv => hcell b o v hv, hmono⟩, Nat.le_refl _, fun _ _ => rfl, fun _ _ => rfl⟩ rfl
          (fun _ _ h => h.elim) (fun _ _ _ _ h => h) (fun _ _ _ h => ⟨fun h => h, h⟩) (fun _ _ h _ => h) (fun _ _ h => h.elim) (fun b hb => ?_)
        · simp [Gh.setL, show b ≠ w.heap.size by omega]
        · rw [bytesWorld_size] at hb
          obtain ⟨k1, k2⟩ := hlim b (by omega)
          exact ⟨by simp [Gh.setL, show b ≠ w.heap.size by omega, k1], k2⟩
      have hlen : (encB s.data.toList).length = s.size := by simp [encB]
      have hrow : ∀ x ∈ encB s.data.toList, x.length = 1 := fun x hx => by
        obtain ⟨i, hi⟩ := List.getElem?_of_mem hx
        obtain ⟨b, _, rfl⟩ := encB_get _ _ _ hi
        rfl
      refine ⟨_, _, _, .inl hrun, h1.put hd (.s (.c (.pure ?_)))⟩
      rw [← hlen] at hcap ⊢
      refine .list 0 1 _ w.heap.size 0 _ _ (fun i => .int .u8 (s.data.toList.getD i 0).toNat) (by omega) (by omega) rfl (by rw [hlen] at hcap ⊢; exact hcap) hrow (by simp [Gh.setL, hlen]) (fun i hi => ?_) (fun i y hy j c hc => ?_)
      · rw [hlen, Nat.mul_one] at hi
        rw [Nat.zero_add]; exact bytesWorld_cell w e s i hi
      · obtain ⟨b, hb, rfl⟩ := encB_get _ _ _ hy
        cases j with
        | zero =>
          simp at hc; subst hc
          simp only [Nat.mul_one, Nat.add_zero, List.getD_eq_getElem?_getD, hb, Option.getD_some]
          exact .int _ _
        | succ j => simp at hc
    · cases hv
  · cases hv
end
end Go.AI

set_option linter.unusedVariables false
set_option linter.unusedSimpArgs false
namespace Go.AI
open Go Go.RowKit Go.Lib

section
variable {P : Program} {E : Entry} {n : Nat} {σ σ' : State} {a : Act} {w : World} {g : Gh} {tk : List Nat} {v : AV}
  {dst : Option Nat} {type : Nat} {pos : String} {after : Array Edge} {guard : Option (Nat × Bool)} {iop : IOp}

theorem cells_rel {k t : Nat} {u : AV} {x : Value} (h : VRel w g k t u x) (hn : 0 < u.cells.length) : u.cells.length = x.cells.size ∧ (∀ j c, u.cells[j]? = some c → XRel w g (k, t, 0, j) c (x.cells.getD j undef)) ∧ ∀ y ∈ x.cells.toList, y.oneCell' = true := by
  cases u with
  | c b =>
    have hr := h.c_inv
    have h1 := hr.one
    refine ⟨by rw [h1.2]; rfl, fun j c hj => ?_, fun y hy => ?_⟩
    · rw [h1.2]
      cases j with
      | zero => simp [AV.cells] at hj; subst hj; simpa using hr
      | succ j => simp [AV.cells] at hj
    · rw [h1.2] at hy; simp at hy; rw [hy]; exact h1.1
  | agg cs =>
    obtain ⟨vs, rfl, h1, h2⟩ := h.agg_inv
    refine ⟨h1, h2, fun y hy => ?_⟩
    simp only [Value.cells] at hy
    obtain ⟨j, hj⟩ := List.getElem?_of_mem hy
    have hlt : j < vs.size := by have := (List.getElem?_eq_some_iff.1 hj).1; simpa using this
    have hlt' : j < cs.length := by rw [h1]; exact hlt
    have := (h2 j cs[j] (List.getElem?_eq_getElem hlt')).one.1
    have he : vs.getD j undef = y := by
      have : vs[j]? = some y := by simpa using hj
      simp [Array.getD_eq_getD_getElem?, this]
    rw [he] at this; exact this
  | tup vs => simp [AV.cells] at hn

theorem splice_get (cs us : List AC) (off j : Nat) (h : off + us.length ≤ cs.length) : (splice cs off us)[j]? = if off ≤ j ∧ j < off + us.length then us[j - off]? else cs[j]? := by
  unfold splice
  by_cases c1 : j < off
  · rw [if_neg (by omega), List.append_assoc, List.getElem?_append_left (by simp; omega), List.getElem?_take, if_pos c1]
  · by_cases c2 : j < off + us.length
    · rw [if_pos (by omega), List.getElem?_append_left (by simp; omega), List.getElem?_append_right (by simp; omega)]
      congr 1; simp; omega
    · rw [if_neg (by omega), List.getElem?_append_right (by simp; omega), List.getElem?_drop]
      congr 1; simp; omega
theorem splice_len (cs us : List AC) (off : Nat) (h : off + us.length ≤ cs.length) : (splice cs off us).length = cs.length := by simp [splice]; omega
theorem row_get (cur : Array Value) (vs : List Value) (off j : Nat) (h : off + vs.length ≤ cur.size) : (cur.toList.take off ++ vs ++ cur.toList.drop (off + vs.length)).toArray[j]? = if off ≤ j ∧ j < off + vs.length then vs[j - off]? else cur[j]? := by
  have hl : cur.toList.length = cur.size := by simp
  simp only [List.getElem?_toArray]
  by_cases c1 : j < off
  · rw [if_neg (by omega), List.append_assoc, List.getElem?_append_left (by simp; omega), List.getElem?_take, if_pos c1]; simp
  · by_cases c2 : j < off + vs.length
    · rw [if_pos (by omega), List.getElem?_append_left (by simp; omega), List.getElem?_append_right (by simp; omega)]
      congr 1; simp; omega
    · rw [if_neg (by omega), List.getElem?_append_right (by simp; omega), List.getElem?_drop]
      simp only [List.length_append, List.length_take, hl]
      rw [show off + vs.length + (j - (min off cur.size + vs.length)) = j by omega]; simp

/-- One listed block is written; who owns what may go from a slot into it. -/
theorem St.write (h : St E n σ a w g) {id : Nat} {k k' : Blk} {env' : List (Nat × AV)} {cur cs : Array Value} {T : Nat} (hk : σ.heap[id]? = some k) (hlive : k.live = true) (hlive' : k'.live = true) (hb : w.heap[g.β id]? = some (.cells cur T (0, 0)))
    (rm : Place → Option Place) (hrm : ∀ id' i j, id' ≠ id → rm (1, id', i, j) = some (1, id', i, j)) (hrel : GExt (fun x => x = g.β id) w g (w.setRow (g.β id) cs) (g.re rm) → HRel (w.setRow (g.β id) cs) (g.re rm) id k')
    (henv : GExt (fun x => x = g.β id) w g (w.setRow (g.β id) cs) (g.re rm) → ∀ t v, look env' t = some v → t < n ∧ VRel (w.setRow (g.β id) cs) (g.re rm) 0 t v (a.tmps.getD t undef)) : St E n ⟨env', σ.heap.set id k'⟩ a (w.setRow (g.β id) cs) (g.re rm) := by
  obtain ⟨hlt, hL, hO⟩ := (h.heap.rel id k hk).lt hlive
  have hidlt : id < σ.heap.length := (List.getElem?_eq_some_iff.1 hk).1
  have e0 := GExt.setRow (g := g) (k := 0) (cs := cs) hb (by rw [hL]; omega) (fun j hj => by rw [hL] at hj; omega)
  have e : GExt (fun x => x = g.β id) w g (w.setRow (g.β id) cs) (g.re rm) := by
    have hLs : (g.setL (g.β id) 0).L = g.L := by
      funext b; simp only [Gh.setL]; split
      · rename_i e'; rw [e', hL]
      · rfl
    have ev := e0.evo
    rw [hLs] at ev
    exact ⟨ev, Nat.le_refl _, fun _ _ => rfl, fun _ _ => rfl⟩
  have gm : ∀ id' q, (σ.heap.set id k')[id']? = some q → (id' ≠ id ∧ σ.heap[id']? = some q) ∨ (id' = id ∧ q = k') := fun id' q hq => by
    by_cases he : id = id'
    · subst he
      rw [List.getElem?_set_self hidlt] at hq
      exact .inr ⟨rfl, (Option.some.inj hq).symm⟩
    · rw [List.getElem?_set_ne he] at hq
      exact .inl ⟨fun h => he h.symm, hq⟩
  have old : ∀ id' (q : Blk), (σ.heap.set id k')[id']? = some q → q.live = true → ∃ q' : Blk, σ.heap[id']? = some q' ∧ q'.live = true := fun id' q hq hl => by
    rcases gm id' q hq with ⟨_, h⟩ | ⟨rfl, _⟩
    · exact ⟨q, h, hl⟩
    · exact ⟨_, hk, hlive⟩
  have hne : ∀ b p, g.ow b = some p → b ≠ g.β id := fun b p hp hb => by rw [hb, hO] at hp; cases hp
  refine ⟨h.defers, h.size, henv e, ⟨by simp [h.heap.len, Gh.re], fun id' q hq => ?_, fun id1 id2 q1 q2 g1 g2 g3 g4 g5 => ?_, fun b hb' => ?_⟩, fun id' q hq hl => ?_, fun b p hp => ?_, ?_⟩
  · rcases gm id' q hq with ⟨hneq, hq⟩ | ⟨rfl, rfl⟩
    · have hid' : id' < g.m := by rw [← h.heap.len]; exact (List.getElem?_eq_some_iff.1 hq).1
      refine (h.heap.rel id' q hq).ext e hid' (fun hl => ?_) fun b i j hb hp => ⟨hne b _ hp, re_some hp (hrm id' i j hneq)⟩
      have := (h.heap.rel id' q hq).lt hl
      exact ⟨this.1, fun he => hneq (h.heap.inj id' id q k hq hk hl hlive he), by simp [Gh.re, this.2.2]⟩
    · exact hrel e
  · obtain ⟨q1', k1, k2⟩ := old id1 q1 g1 g3
    obtain ⟨q2', k3, k4⟩ := old id2 q2 g2 g4
    exact h.heap.inj id1 id2 q1' q2' k1 k3 k2 k4 g5
  · rw [setRow_size] at hb'
    obtain ⟨k1, k2⟩ := h.heap.lim b hb'
    exact ⟨k1, by simp [Gh.re, k2]⟩
  · obtain ⟨q', k1, k2⟩ := old id' q hq hl
    exact h.baseH id' q' k1 k2
  · obtain ⟨q, hq, _⟩ := Option.bind_eq_some_iff.1 hp
    exact h.baseO b q hq
  · exact h.evo.trans e fun b hb' hn => by
      subst hn
      rcases h.baseH id k hk hlive with h | h
      · omega
      · exact h

theorem store_sound (h : St E n σ a w g) {t m ta : Nat} {x y : Operand} {x' y' : Opd} (hz : szOf P t = some m) (hx : cOpd P ta x = some x') (hy : cOpd P t y = some y') (hv : σ.step dst (.store m x' y') = some σ') (hd : dst = none) :
    Did P E n a w ⟨dst, .store t x y, type, pos, after, guard⟩ σ' := by
  subst hd
  have hrun : ∀ b off cur T, a.eval x = .pointer (some ⟨b, off, none⟩) → w.heap[b]? = some (.cells cur T (0, 0)) → (a.eval y).cells.size = m → off + m ≤ cur.size → (∀ z ∈ (a.eval y).cells.toList, z.oneCell' = true) →
      (execOp a.eval ⟨none, .store t x y, type, pos, after, guard⟩).run P w = .ok .skip (w.setRow b (cur.toList.take off ++ (a.eval y).cells.toList ++ cur.toList.drop (off + (a.eval y).cells.toList.length)).toArray) := fun b off cur T he hb hs hle h1 => by
    have hst := run_storeCells_at P b off T (a.eval y).cells.toList 0 cur w hb (by simpa [hs] using hle) h1
    simp only [Nat.add_zero] at hst
    simp [execOp, Instr.storeAt, he, Instr.sureAddr, storeVar, run_sizeOf hz, hs, hst]
  simp only [State.step] at hv
  split at hv
  · rename_i id off u hp hu
    obtain ⟨hid, hpe⟩ := (ev_rel h hx hp 0 0).c_inv.ptr_inv
    split at hv
    · rename_i cs hcs
      split at hv
      · rename_i hb
        obtain ⟨hlen, hpos, hle⟩ := hb
        obtain rfl := Option.some.inj hv
        have hH := h.heap.rel _ _ hcs
        cases hH with
        | cells h2 h3 h4 h5 h6 =>
          rename_i vs T
          obtain ⟨g1, hside⟩ : ∃ s? : Option Nat, (∀ s, s? = some s → y' = .t s ∧ VRel w g 0 s u (a.eval y)) ∧ (s? = none → (σ.take y').env = σ.env ∧ u.share = u ∧ VRel w g 9 9 u (a.eval y)) := by
            obtain ⟨g', _, _, _, _, hs⟩ := raw_rel h hy hu
            rcases hs with ⟨s, rfl, hr, _⟩ | ⟨hsh, hr⟩
            · exact ⟨some s, fun s' hs' => (by injection hs' with hs'; subst hs'; exact ⟨rfl, hr⟩), fun h => by cases h⟩
            · cases y' with
              | t s => exact ⟨some s, fun s' hs' => (by injection hs' with hs'; subst hs'; exact ⟨rfl, hr 0 s⟩), fun h => by cases h⟩
              | c q => exact ⟨none, fun s hs => (by cases hs), fun _ => ⟨rfl, hsh, hr 9 9⟩⟩
          let rm : Place → Option Place := fun p => if p.1 = 0 ∧ some p.2.1 = g1 ∧ p.2.2.1 = 0 then some (1, id, 0, off + p.2.2.2) else some p
          have hne : ∀ b p, g.ow b = some p → b ≠ g.β id := fun b p hp hb => by rw [hb, h6] at hp; cases hp
          have hcr : u.cells.length = (a.eval y).cells.size ∧ (∀ (w' : World), GExt (fun x => x = g.β id) w g w' (g.re rm) → ∀ j c, u.cells[j]? = some c → XRel w' (g.re rm) (1, id, 0, off + j) c ((a.eval y).cells.getD j undef)) ∧ ∀ y' ∈ (a.eval y).cells.toList, y'.oneCell' = true := by
            cases hg1 : g1 with
            | some s =>
              obtain ⟨_, hr⟩ := hside.1 s hg1
              obtain ⟨hc1, hc2, hc3⟩ := cells_rel hr (by omega)
              refine ⟨hc1, fun w' e j c hj => (hc2 j c hj).ext e fun b hb hp => ⟨hne b _ hp, re_some hp (by simp [rm, hg1])⟩, hc3⟩
            | none =>
              obtain ⟨_, hsh, hr⟩ := hside.2 hg1
              obtain ⟨hc1, hc2, hc3⟩ := cells_rel hr (by omega)
              refine ⟨hc1, fun w' e j c hj => (hc2 j c hj).extS e ?_, hc3⟩
              cases u with
              | c b =>
                cases j with
                | zero => simp [AV.cells] at hj; subst hj; simpa [AV.share] using hsh
                | succ j => simp [AV.cells] at hj
              | agg bs =>
                simp only [AV.share, AV.agg.injEq] at hsh
                simp only [AV.cells] at hj
                have := congrArg (·[j]?) hsh
                simp only [List.getElem?_map, hj, Option.map_some, Option.some.injEq] at this
                exact this
              | tup bs => simp [AV.cells] at hj
          obtain ⟨hc1, hc2, hc3⟩ := hcr
          have hsz : (a.eval y).cells.size = m := by omega
          have hfit : off + m ≤ vs.size := by omega
          have hrun' := hrun (g.β id) off vs T hpe h2 hsz hfit hc3
          have hsl : (a.eval y).cells.toList.length = m := by simp [hsz]
          have hw := h.write (k := .cells cs) (k' := .cells (splice cs off u.cells)) (env' := (σ.take y').env) (cs := (vs.toList.take off ++ (a.eval y).cells.toList ++ vs.toList.drop (off + (a.eval y).cells.toList.length)).toArray) hcs rfl rfl h2 rm (fun id' i j hne => by simp [rm])
            (fun e => by
              refine .cells (vs := (vs.toList.take off ++ (a.eval y).cells.toList ++ vs.toList.drop (off + (a.eval y).cells.toList.length)).toArray) (T := T) (setRow_heap w _ vs _ T _ h2) (by rw [splice_len _ _ _ (by omega)]; simp; omega) (fun j c hj => ?_) h5 (by simp [Gh.re, h6])
              rw [splice_get _ _ _ _ (by omega)] at hj
              have hq := row_get vs (a.eval y).cells.toList off j (by omega)
              split at hj
              · rename_i hin
                have hin' : off ≤ j ∧ j < off + (a.eval y).cells.toList.length := by omega
                rw [if_pos hin'] at hq
                have hx2 := hc2 _ e _ c hj
                have he : ((vs.toList.take off ++ (a.eval y).cells.toList ++ vs.toList.drop (off + (a.eval y).cells.toList.length)).toArray).getD j undef = (a.eval y).cells.getD (j - off) undef := by
                  simp only [Array.getD_eq_getD_getElem?, hq]; simp
                rw [he]
                rw [show off + (j - off) = j by omega] at hx2
                exact hx2
              · rename_i hin
                have hin' : ¬ (off ≤ j ∧ j < off + (a.eval y).cells.toList.length) := by omega
                rw [if_neg hin'] at hq
                have he : ((vs.toList.take off ++ (a.eval y).cells.toList ++ vs.toList.drop (off + (a.eval y).cells.toList.length)).toArray).getD j undef = vs.getD j undef := by
                  simp only [Array.getD_eq_getD_getElem?, hq]
                rw [he]
                exact (h4 j c hj).ext e fun b hb hp => ⟨hne b _ hp, re_some hp (by simp [rm])⟩)
            (fun e t v hv => by
              cases hg1 : g1 with
              | some s' =>
                obtain ⟨rfl, _⟩ := hside.1 s' hg1
                have hu' : look σ.env s' = some u := hu
                simp only [State.take, hu'] at hv
                rw [look_put] at hv
                split at hv
                · rename_i e'; subst e'
                  obtain rfl := Option.some.inj hv
                  obtain ⟨q1, q2⟩ := h.env s' u hu'
                  exact ⟨q1, (q2.share (k' := 0) (t' := s')).extS e (AV.share_share u)⟩
                · rename_i e'
                  obtain ⟨q1, q2⟩ := h.env t v hv
                  exact ⟨q1, q2.ext e fun b i j hb hp => ⟨hne b _ hp, re_some hp (by simp [rm, hg1]; omega)⟩⟩
              | none =>
                obtain ⟨he, _⟩ := hside.2 hg1
                rw [he] at hv
                obtain ⟨q1, q2⟩ := h.env t v hv
                exact ⟨q1, q2.ext e fun b i j hb hp => ⟨hne b _ hp, re_some hp (by simp [rm, hg1])⟩⟩)
          exact ⟨undef, _, _, .inr ⟨hrun', rfl⟩, hw⟩
      · cases hv
    · cases hv
  · rename_i id esz i off u hp hu
    have hpr := (ev_rel h hx hp 0 0).c_inv
    obtain ⟨px, hpx⟩ : ∃ px, px = a.eval x := ⟨_, rfl⟩
    rw [← hpx] at hpr
    cases hpr with
    | pure hc => cases hc
    | aptr hid =>
      split at hv
      · rename_i e k xs hcs
        split at hv
        · rename_i hke; subst hke
          split at hv
          · rename_i y0 hy0
            split at hv
            · rename_i hb
              obtain ⟨hlen, hpos, hle, hpure⟩ := hb
              obtain rfl := Option.some.inj hv
              have hH := h.heap.rel _ _ hcs
              cases hH with
              | arr h2 h3 h3' h4 h5 h6 h7 h8 h9 =>
                rename_i cur cap
                have hvr : ∃ k' s, VRel w g k' s u (a.eval y) := by
                  obtain ⟨g', _, _, _, _, hs⟩ := raw_rel h hy hu
                  rcases hs with ⟨s, rfl, hr, _⟩ | ⟨hsh, hr⟩
                  · exact ⟨0, s, hr⟩
                  · exact ⟨0, 0, hr 0 0⟩
                obtain ⟨k', s, hvr⟩ := hvr
                obtain ⟨hc1, hc2, hc3⟩ := cells_rel hvr (by omega)
                have hi : i < xs.length := (List.getElem?_eq_some_iff.1 hy0).1
                have hyl : y0.length = k := h6 y0 (List.mem_of_getElem? hy0)
                have hmul : (i + 1) * k ≤ cap * k := Nat.mul_le_mul_right _ (by omega)
                rw [Nat.add_mul, Nat.one_mul] at hmul
                have hsl : (a.eval y).cells.toList.length = m := by simp; omega
                have hfit : i * k + off + m ≤ cur.size := by rw [h3]; omega
                have hrun' := hrun (g.β id) (i * k + off) cur e hpx.symm h2 (by omega) hfit hc3
                have hne : ∀ b p, g.ow b = some p → b ≠ g.β id := fun b p hp hb => by rw [hb, h9] at hp; cases hp
                have hw := h.write (k := .arr e k xs) (k' := .arr e k (xs.set i (splice y0 off (u.cells.map AC.norm)))) (env' := σ.env) (cs := (cur.toList.take (i * k + off) ++ (a.eval y).cells.toList ++ cur.toList.drop (i * k + off + (a.eval y).cells.toList.length)).toArray) hcs rfl rfl h2 some (fun _ _ _ _ => rfl)
                  (fun e' => by
                    refine .arr (cap := cap) (setRow_heap w _ cur _ e _ h2) (by rw [← h3]; simp; omega) h3' (by simpa using h4) h5 (fun z hz => ?_) (fun i' z hz j c hj => ?_) h8 (by simp [Gh.re, h9])
                    · obtain ⟨i', hi'⟩ := List.getElem?_of_mem hz
                      by_cases hii : i = i'
                      · subst hii
                        rw [List.getElem?_set_self hi] at hi'
                        obtain rfl := Option.some.inj hi'
                        rw [splice_len _ _ _ (by simp; omega)]; exact hyl
                      · rw [List.getElem?_set_ne hii] at hi'
                        exact h6 z (List.mem_of_getElem? hi')
                    · have hq := row_get cur (a.eval y).cells.toList (i * k + off) (i' * k + j) (by omega)
                      have old : ∀ z', xs[i']? = some z' → z'[j]? = some c → ¬ (i * k + off ≤ i' * k + j ∧ i' * k + j < i * k + off + (a.eval y).cells.toList.length) → CRel (w.setRow (g.β id) (cur.toList.take (i * k + off) ++ (a.eval y).cells.toList ++ cur.toList.drop (i * k + off + (a.eval y).cells.toList.length)).toArray) (g.re some).L c (((cur.toList.take (i * k + off) ++ (a.eval y).cells.toList ++ cur.toList.drop (i * k + off + (a.eval y).cells.toList.length)).toArray).getD (i' * k + j) undef) := fun z' hz' hj' hn => by
                        rw [if_neg hn] at hq
                        have he : ((cur.toList.take (i * k + off) ++ (a.eval y).cells.toList ++ cur.toList.drop (i * k + off + (a.eval y).cells.toList.length)).toArray).getD (i' * k + j) undef = cur.getD (i' * k + j) undef := by
                          simp only [Array.getD_eq_getD_getElem?, hq]
                        rw [he]; exact (h7 i' z' hz' j c hj').evo e'.evo
                      by_cases hii : i = i'
                      · subst hii
                        rw [List.getElem?_set_self hi] at hz
                        obtain rfl := Option.some.inj hz
                        rw [splice_get _ _ _ _ (by simp; omega)] at hj
                        simp only [List.length_map] at hj
                        split at hj
                        · rename_i hin
                          have hin' : i * k + off ≤ i * k + j ∧ i * k + j < i * k + off + (a.eval y).cells.toList.length := by omega
                          rw [if_pos hin'] at hq
                          rw [List.getElem?_map] at hj
                          obtain ⟨b, hb, rfl⟩ := Option.map_eq_some_iff.1 hj
                          have hbp : b.pure = true := List.all_eq_true.1 hpure b (List.mem_of_getElem? hb)
                          have hx2 := ((hc2 _ b hb).toC hbp).normed
                          have he : ((cur.toList.take (i * k + off) ++ (a.eval y).cells.toList ++ cur.toList.drop (i * k + off + (a.eval y).cells.toList.length)).toArray).getD (i * k + j) undef = (a.eval y).cells.getD (j - off) undef := by
                            simp only [Array.getD_eq_getD_getElem?, hq]
                            rw [show i * k + j - (i * k + off) = j - off by omega]; simp
                          rw [he]; exact hx2.evo e'.evo
                        · rename_i hin
                          exact old _ hy0 hj (by omega)
                      · rw [List.getElem?_set_ne hii] at hz
                        have hjk : j < k := by rw [← h6 z (List.mem_of_getElem? hz)]; exact (List.getElem?_eq_some_iff.1 hj).1
                        refine old z hz hj ?_
                        rcases Nat.lt_or_gt_of_ne hii with hlt | hlt
                        · have := Nat.mul_le_mul_right k (show i + 1 ≤ i' by omega)
                          rw [Nat.add_mul, Nat.one_mul] at this; omega
                        · have := Nat.mul_le_mul_right k (show i' + 1 ≤ i by omega)
                          rw [Nat.add_mul, Nat.one_mul] at this; omega)
                  (fun e' t v hv => by
                    obtain ⟨q1, q2⟩ := h.env t v hv
                    exact ⟨q1, q2.ext e' fun b i j hb hp => ⟨hne b _ hp, re_some hp rfl⟩⟩)
                exact ⟨undef, _, _, .inr ⟨hrun', rfl⟩, hw⟩
            · cases hv
          · cases hv
        · cases hv
      · cases hv
  · cases hv
end
end Go.AI

set_option linter.unusedVariables false
set_option linter.unusedSimpArgs false
namespace Go.AI
open Go Go.RowKit Go.Lib

/-! ### Calls -/
def Callable (P : Program) (f : Nat) : Prop := ∃ fn, P.funcs[f]? = some fn ∧ (fn.name == "runtime.NumGoroutine") = false ∧ fn.body.isNone = false

/-- Free of places in the listed blocks: what a call that knows no listed block may be given. -/
def AC.free : AC → Bool
  | .fn _ [] | .nilfn => true
  | a => a.pure
/-- .. and what it may return. -/
def AC.res : AC → Bool
  | .list 2 _ _ => true
  | a => a.free
def AV.allS (p : AC → Bool) : AV → Bool
  | .c a => p a
  | .agg cs => cs.all p
  | .tup _ => false
def AV.all (p : AC → Bool) : AV → Bool
  | .c a => p a
  | .agg cs => cs.all p
  | .tup vs => vs.all (AV.allS p)

/-- Called with these values over these listed blocks, it returns this value and leaves those. -/
def RunsTo (P : Program) (f : Nat) (args : List AV) (H : List Blk) (r : AV) (H' : List Blk) : Prop :=
  Callable P f ∧ ∀ (w : World) (g : Gh) (vals : Array Value), HSt w g H → args.length = vals.size → (∀ i x, args[i]? = some x → x.share = x ∧ ∀ k t, VRel w g k t x (vals.getD i undef)) →
    Calls P f vals w fun e w' => ∃ v g', e = .returned v ∧ HSt w' g' H' ∧ VRel w' g' 3 0 r v ∧ GExt (Mset g H) w g w' g' ∧ (∀ b p, g'.ow b = some p → (p.1 = 1 ∨ p.1 = 3) ∧ (w.heap.size ≤ b ∨ Mset g H b)) ∧
      ∀ id k, H'[id]? = some k → k.live = true → w.heap.size ≤ g'.β id ∨ Mset g H (g'.β id)

/-- .. where the value and the blocks are not told, but what holds of them. -/
def RunsQ (P : Program) (f : Nat) (args : List AV) (H : List Blk) (Q : AV → List Blk → Prop) : Prop :=
  Callable P f ∧ ∀ (w : World) (g : Gh) (vals : Array Value), HSt w g H → args.length = vals.size → (∀ i x, args[i]? = some x → x.share = x ∧ ∀ k t, VRel w g k t x (vals.getD i undef)) →
    Calls P f vals w fun e w' => ∃ r H' v g', Q r H' ∧ e = .returned v ∧ HSt w' g' H' ∧ VRel w' g' 3 0 r v ∧ GExt (Mset g H) w g w' g' ∧ (∀ b p, g'.ow b = some p → (p.1 = 1 ∨ p.1 = 3) ∧ (w.heap.size ≤ b ∨ Mset g H b)) ∧
      ∀ id k, H'[id]? = some k → k.live = true → w.heap.size ≤ g'.β id ∨ Mset g H (g'.β id)
theorem RunsTo.toQ {P : Program} {f : Nat} {args : List AV} {H H' : List Blk} {r : AV} (h : RunsTo P f args H r H') : RunsQ P f args H fun u G => u = r ∧ G = H' :=
  ⟨h.1, fun w g vals h1 h2 h3 => (h.2 w g vals h1 h2 h3).mono fun e w' ⟨v, g', q⟩ => ⟨r, H', v, g', ⟨rfl, rfl⟩, q⟩⟩

theorem XRel.free {w : World} {g : Gh} {p q : Place} {a : AC} {v : Value} (h : XRel w g p a v) (hf : a.free = true) {w' : World} {g' : Gh} (hc : ∀ b o v, o < g.L b → w.cell? ⟨b, o, none⟩ = some v → w'.cell? ⟨b, o, none⟩ = some v) (hL : ∀ b, g.L b ≤ g'.L b) : XRel w' g' q a v := by
  cases h with
  | pure h => exact .pure (h.keep hc hL)
  | capped h => simp [AC.free, AC.pure] at hf
  | own us h1 h2 h3 h4 => simp [AC.free, AC.pure] at hf
  | nilp => simp [AC.free, AC.pure] at hf
  | ptr h => simp [AC.free, AC.pure] at hf
  | eptr vs h1 h2 h3 => simp [AC.free, AC.pure] at hf
  | sl h1 h2 h3 => simp [AC.free, AC.pure] at hf
  | aptr h => simp [AC.free, AC.pure] at hf
  | fn cv h1 h2 h3 =>
    rename_i f caps
    cases caps with
    | nil => exact .fn cv h1 (by simp) (by simp)
    | cons => simp [AC.free, AC.pure] at hf
  | nilfn => exact .nilfn
  | map h => simp [AC.free, AC.pure] at hf

theorem SRel.all {w w' : World} {g g' : Gh} {k t i k' t' i' : Nat} {p : AC → Bool} (hstep : ∀ j a v, p a = true → XRel w g (k, t, i, j) a v → XRel w' g' (k', t', i', j) a v) {a : AV} {v : Value} (h : SRel w g k t i a v) (hp : a.all p = true) : SRel w' g' k' t' i' a v := by
  cases h with
  | c h => exact .c (hstep _ _ _ hp h)
  | agg h1 h2 => exact .agg h1 fun j a ha => hstep _ _ _ (List.all_eq_true.1 hp a (List.mem_of_getElem? ha)) (h2 j a ha)
theorem VRel.all {w w' : World} {g g' : Gh} {k t k' t' : Nat} {p : AC → Bool} (hstep : ∀ i j a v, p a = true → XRel w g (k, t, i, j) a v → XRel w' g' (k', t', i, j) a v) {a : AV} {v : Value} (h : VRel w g k t a v) (hp : a.all p = true) : VRel w' g' k' t' a v := by
  cases h with
  | s h => exact .s (h.all (fun j => hstep 0 j) hp)
  | tup h1 h2 =>
    refine .tup h1 fun i a ha => ?_
    have hq : a.allS p = true := List.all_eq_true.1 hp a (List.mem_of_getElem? ha)
    have hr := h2 i a ha
    generalize Array.getD _ i undef = y at hr ⊢
    cases hr with
    | c h => exact .c (hstep _ _ _ _ hq h)
    | agg h1 h2 => exact (SRel.agg h1 h2).all (fun j => hstep i j) hq

section
variable {P : Program} {E : Entry} {n : Nat} {σ σ' : State} {a : Act} {w : World} {g : Gh} {tk : List Nat} {v : AV}

/-- What a call leaves: the places of its result become the slot's. -/
noncomputable def Gh.after (g g' : Gh) (size : Nat) (M : Nat → Prop) (d : Nat) : Gh :=
  open Classical in { g' with ow := fun b => if b < size ∧ ¬ M b then g.ow b else (g'.ow b).bind fun p => if p.1 = 3 then some (0, d, p.2.2) else some p }

theorem St.callH (h : St E n σ a w g) {r : AV} {H' : List Blk} {w' : World} {g' : Gh} {v : Value} {d : Nat} (hd : d < n) (h1 : HSt w' g' H') (h2 : VRel w' g' 3 0 r v) (h3 : GExt (Mset g σ.heap) w g w' g')
    (h4 : ∀ b p, g'.ow b = some p → (p.1 = 1 ∨ p.1 = 3) ∧ (w.heap.size ≤ b ∨ Mset g σ.heap b)) (h5 : ∀ id k, H'[id]? = some k → k.live = true → w.heap.size ≤ g'.β id ∨ Mset g σ.heap (g'.β id)) :
    St E n ⟨AI.put σ.env d r, H'⟩ (a.put (some d) v) w' (g.after g' w.heap.size (Mset g σ.heap) d) := by
  classical
  have e' : GExt (fun _ => False) w' g' w' (g.after g' w.heap.size (Mset g σ.heap) d) := ⟨Evo.refl _ _ _, Nat.le_refl _, fun _ _ => rfl, fun _ _ => rfl⟩
  have e : GExt (Mset g σ.heap) w g w' (g.after g' w.heap.size (Mset g σ.heap) d) := ⟨h3.evo, h3.m, h3.β, h3.cap⟩
  have hM : ∀ b, Mset g σ.heap b → E.w0.heap.size ≤ b ∨ E.M b := fun b hb => by
    rcases hb with ⟨id, k, hk, hl, rfl⟩ | ⟨id, i, j, ho⟩
    · exact h.baseH id k hk hl
    · exact h.baseO b _ ho
  have hnew : ∀ b p, g'.ow b = some p → (g.after g' w.heap.size (Mset g σ.heap) d).ow b = if p.1 = 3 then some (0, d, p.2.2) else some p := fun b p hp => by
    have := (h4 b p hp).2
    have hn : ¬ (b < w.heap.size ∧ ¬ Mset g σ.heap b) := fun ⟨q1, q2⟩ => by
      rcases this with q | q
      · omega
      · exact q2 q
    simp [Gh.after, hn, hp]
  have h0 : St E n ⟨AI.kill σ.env [d], H'⟩ a w' (g.after g' w.heap.size (Mset g σ.heap) d) := by
    refine ⟨h.defers, h.size, fun t u hu => ?_, h1.ext e' rfl (fun id k hk hl => ⟨fun h => h, ?_⟩) (fun b id i j hb hp => ⟨fun h => h, by rw [hnew b _ hp]; simp⟩) (fun b hb => ⟨(h1.lim b hb).1, ?_⟩), fun id k hk hl => ?_, fun b p hp => ?_, ?_⟩
    · obtain ⟨_, hu'⟩ := look_del _ _ _ _ hu
      obtain ⟨q1, q2⟩ := h.env t u hu'
      refine ⟨q1, q2.ext e fun b i j hb hp => ?_⟩
      have hn : ¬ Mset g σ.heap b := by
        rintro (⟨id, k, hk, hl, rfl⟩ | ⟨id, i', j', ho⟩)
        · have := ((h.heap.rel id k hk).lt hl).2.2
          rw [this] at hp; cases hp
        · rw [ho] at hp; simp at hp
      exact ⟨hn, by simp [Gh.after, hb, hn, hp]⟩
    · obtain ⟨q1, q2, q3⟩ := (h1.rel id k hk).lt hl
      have hb : ¬ (g'.β id < w.heap.size ∧ ¬ Mset g σ.heap (g'.β id)) := fun ⟨q4, q5⟩ => by
        rcases h5 id k hk hl with q | q
        · omega
        · exact q5 q
      show (g.after g' w.heap.size (Mset g σ.heap) d).ow (g'.β id) = none
      simp [Gh.after, hb, q3]
    · obtain ⟨q1, q2⟩ := h1.lim b hb
      have hlt : ¬ b < w.heap.size := by have := h3.evo.size; omega
      simp [Gh.after, hlt, q2]
    · rcases h5 id k hk hl with q | q
      · exact .inl (Nat.le_trans h.evo.size q)
      · exact hM _ q
    · by_cases hb : b < w.heap.size ∧ ¬ Mset g σ.heap b
      · simp [Gh.after, hb] at hp
        exact h.baseO b p hp
      · simp only [Gh.after, if_neg hb] at hp
        obtain ⟨q, hq, _⟩ := Option.bind_eq_some_iff.1 hp
        rcases (h4 b q hq).2 with q' | q'
        · exact .inl (Nat.le_trans h.evo.size q')
        · exact hM _ q'
    · exact h.evo.trans e fun b hb hm => by
        rcases hM b hm with q | q
        · omega
        · exact q
  have hr : VRel w' (g.after g' w.heap.size (Mset g σ.heap) d) 0 d r v := h2.ext e' fun b i j hb hp => ⟨fun h => h, by rw [hnew b _ hp]; simp⟩
  refine (h0.put hd hr).forget _ fun t u hu => ?_
  rw [look_put] at hu ⊢
  split at hu
  · rename_i e; rw [if_pos e]; exact hu
  · rename_i e; rw [if_neg e]; exact look_keep _ _ _ _ (fun h => e h.symm) hu

/-- Nothing listed, nothing owned. -/
def Gh.bare (g : Gh) : Gh := { g with m := 0, ow := fun _ => none }
theorem HSt.bare {w : World} {g : Gh} (hl : ∀ b, w.heap.size ≤ b → g.L b = 0 ∧ g.ow b = none) : HSt w g.bare [] := ⟨rfl, by simp, by simp, fun b hb => ⟨(hl b hb).1, rfl⟩⟩
theorem Mset.bare (g : Gh) (b : Nat) : ¬ Mset g.bare [] b := by
  rintro (⟨id, k, hk, _⟩ | ⟨id, i, j, ho⟩)
  · simp at hk
  · simp [Gh.bare] at ho

def Gh.afterP (g g' : Gh) (size d : Nat) : Gh := { g with L := g'.L, ow := fun b => if b < size then g.ow b else (g'.ow b).bind fun p => if p.1 = 3 then some (0, d, p.2.2) else none }

theorem St.callP (h : St E n σ a w g) {r : AV} {w' : World} {g' : Gh} {v : Value} {d : Nat} (hd : d < n) (h2 : VRel w' g' 3 0 r v) (hres : r.all AC.res = true) (h3 : GExt (Mset g.bare []) w g.bare w' g') (h4 : ∀ b p, g'.ow b = some p → (p.1 = 1 ∨ p.1 = 3) ∧ (w.heap.size ≤ b ∨ Mset g.bare [] b)) (hlim : ∀ b, w'.heap.size ≤ b → g'.L b = 0 ∧ g'.ow b = none) :
    St E n ⟨AI.put σ.env d r, σ.heap⟩ (a.put (some d) v) w' (g.afterP g' w.heap.size d) := by
  have e : GExt (fun _ => False) w g w' (g.afterP g' w.heap.size d) := ⟨⟨h3.evo.os, h3.evo.tape, h3.evo.output, h3.evo.size, fun b hb _ => h3.evo.block b hb (Mset.bare g b), fun b hb _ => h3.evo.lim b hb (Mset.bare g b), h3.evo.cell, h3.evo.mono⟩, Nat.le_refl _, fun _ _ => rfl, fun _ _ => rfl⟩
  have h1 := h.ext e rfl (fun _ _ h => h.elim) (fun _ _ _ _ h => h) (fun b p hb hp => ⟨fun h => h, by simp [Gh.afterP, hb, hp]⟩) (fun b hb hp _ => by simp [Gh.afterP, hb, hp]) (fun _ _ h => h.elim) (fun b hb => ?_)
  · refine h1.put hd (h2.all (p := AC.res) (fun i j c u hp hx => ?_) hres)
    cases hx with
    | pure hc => exact .pure (hc.keep (fun _ _ _ _ hv => hv) fun _ => Nat.le_refl _)
    | capped hc => exact .capped (hc.keep (fun _ _ _ _ hv => hv) fun _ => Nat.le_refl _)
    | own us q1 q2 q3 q4 =>
      refine .own us q1 q2 q3 fun b hb => ?_
      obtain ⟨q5, q6⟩ := q4 b hb
      refine ⟨?_, q6⟩
      have hlt : ¬ b < w.heap.size := by
        rcases (h4 b _ q5).2 with q | q
        · omega
        · exact (Mset.bare g b q).elim
      simp [Gh.afterP, hlt, q5]
    | nilp => simp [AC.res, AC.free, AC.pure] at hp
    | ptr q => simp [AC.res, AC.free, AC.pure] at hp
    | eptr vs q1 q2 q3 => simp [AC.res, AC.free, AC.pure] at hp
    | sl q1 q2 q3 => simp [AC.res, AC.free, AC.pure] at hp
    | aptr q => simp [AC.res, AC.free, AC.pure] at hp
    | fn cv q1 q2 q3 =>
      rename_i f caps
      cases caps with
      | nil => exact .fn cv q1 (by simp) (by simp)
      | cons => simp [AC.res, AC.free, AC.pure] at hp
    | nilfn => exact .nilfn
    | map q => simp [AC.res, AC.free, AC.pure] at hp
  · obtain ⟨q1, q2⟩ := hlim b hb
    have hlt : ¬ b < w.heap.size := by have := h3.evo.size; omega
    exact ⟨q1, by simp [Gh.afterP, hlt, q2]⟩

theorem run_callFunc {f : Nat} (hf : Callable P f) (args : Array Value) (w : World) : (callFunc f args).run P w = .ok (.enter f args) w := by
  obtain ⟨fn, h1, h2, h3⟩ := hf
  have h2' : ¬ fn.name = "runtime.NumGoroutine" := by simpa using h2
  have h3' : ¬ fn.body = none := fun e => by rw [e] at h3; simp at h3
  simp [callFunc, h1, h2', h3']

/-- How a call hands its arguments on: as others read them, or with what is known of their capacity. -/
def Hand (nf : AV → AV) : Prop := nf = AV.norm ∨ nf = AV.share
/-- The values of a call's arguments, and of what its function has captured. -/
theorem args_rel (h : St E n σ a w g) {tys : List Nat} {xs : List Operand} {ys : List Opd} (hc : cOpds P tys xs = some ys) {us : List AV} (hu : σ.evs ys = some us) {caps : List AC} {cv : Array Value} (hl : caps.length = cv.size) (hr : ∀ j c, caps[j]? = some c → ∀ q, XRel w g q c (cv.getD j undef)) {nf : AV → AV} (hnf : Hand nf) :
    ((us ++ caps.map AV.c).map nf).length = ((xs.map a.eval).toArray ++ cv).size ∧ ∀ i x, ((us ++ caps.map AV.c).map nf)[i]? = some x → x.share = x ∧ ∀ k t, VRel w g k t x (((xs.map a.eval).toArray ++ cv).getD i undef) := by
  obtain ⟨h1, h2⟩ := evs_rel h hc hu 0
  have hst : ∀ y, (nf y).share = nf y := fun y => by
    rcases hnf with rfl | rfl
    · exact AV.norm_share y
    · exact AV.share_share y
  have hto : ∀ {y x}, (∀ t, VRel w g 0 t y x) → ∀ k t, VRel w g k t (nf y) x := fun {y x} hr k t => by
    rcases hnf with rfl | rfl
    · exact (hr 0).norm
    · exact (hr 0).share
  refine ⟨by simp [h1, hl], fun i x hx => ?_⟩
  rw [List.getElem?_map] at hx
  obtain ⟨y, hy, rfl⟩ := Option.map_eq_some_iff.1 hx
  refine ⟨hst y, fun k t => ?_⟩
  by_cases hi : i < us.length
  · rw [List.getElem?_append_left hi] at hy
    obtain ⟨z, hz, hr'⟩ := h2 i y hy
    have he : ((xs.map a.eval).toArray ++ cv).getD i undef = a.eval z := by
      have : i < (xs.map a.eval).toArray.size := by simp; omega
      simp [Array.getD_eq_getD_getElem?, Array.getElem?_append_left this, hz]
    rw [he]; exact hto (fun t => hr' t) k t
  · rw [List.getElem?_append_right (by omega), List.getElem?_map] at hy
    obtain ⟨c, hc', rfl⟩ := Option.map_eq_some_iff.1 hy
    have he : ((xs.map a.eval).toArray ++ cv).getD i undef = cv.getD (i - us.length) undef := by
      have : (xs.map a.eval).toArray.size ≤ i := by simp; omega
      simp only [Array.getD_eq_getD_getElem?, Array.getElem?_append_right this]
      simp [h1]
    rw [he]
    exact hto (fun t => .s (.c (hr _ _ hc' (0, t, 0, 0)))) k t

/-- A call whose contract reads and leaves nothing. -/
def callPGo (P : Program) (σ : State) (dst : Option Nat) (f : Opd) (args : List Opd) (K : State → Prop) : Prop :=
  ∃ fid caps us r, σ.ev f = some (.c (.fn fid caps)) ∧ σ.evs args = some us ∧ (∃ d, dst = some d) ∧
    RunsTo P fid ((us ++ caps.map AV.c).map AV.norm) [] r [] ∧ ((us ++ caps.map AV.c).map AV.norm).all (AV.all AC.free) = true ∧ r.all AC.res = true ∧ K (σ.setD dst r)
inductive BSim : Blk → Blk → Prop
  | refl (b) : BSim b b
  | cells (cs cs') : cs'.map AC.share = cs.map AC.share → BSim (.cells cs) (.cells cs')
def HSim (H H' : List Blk) : Prop := ∀ (id : Nat) (b : Blk), H[id]? = some b → ∃ b', H'[id]? = some b' ∧ BSim b b'
theorem HSim.refl (H : List Blk) : HSim H H := fun id b h => ⟨b, h, .refl b⟩
/-- A call by its contract: Γ tells where it may go on. -/
def callGo (P : Program) (σ : State) (dst : Option Nat) (f : Opd) (args : List Opd) (K : State → Prop) : Prop :=
  ∃ fid caps us, σ.ev f = some (.c (.fn fid caps)) ∧ σ.evs args = some us ∧ (∃ d, dst = some d) ∧
    ((∃ r, RunsTo P fid ((us ++ caps.map AV.c).map AV.norm) [] r [] ∧ ((us ++ caps.map AV.c).map AV.norm).all (AV.all AC.free) = true ∧ r.all AC.res = true ∧ K (σ.setD dst r)) ∨
      ∃ Q nf, Hand nf ∧ RunsQ P fid ((us ++ caps.map AV.c).map nf) σ.heap Q ∧ ∀ r H', Q r H' → K (State.setD ⟨σ.env, H'⟩ dst r))

/-- A call that leaves the blocks that there are. -/
def callXGo (P : Program) (σ : State) (dst : Option Nat) (f : Opd) (args : List Opd) (K : State → Prop) : Prop :=
  ∃ fid caps us, σ.ev f = some (.c (.fn fid caps)) ∧ σ.evs args = some us ∧ (∃ d, dst = some d) ∧
    ((∃ r, RunsTo P fid ((us ++ caps.map AV.c).map AV.norm) [] r [] ∧ ((us ++ caps.map AV.c).map AV.norm).all (AV.all AC.free) = true ∧ r.all AC.res = true ∧ K (σ.setD dst r)) ∨
      ∃ Q nf, Hand nf ∧ RunsQ P fid ((us ++ caps.map AV.c).map nf) σ.heap Q ∧ ∀ r H', Q r H' → HSim σ.heap H' ∧ K (State.setD ⟨σ.env, H'⟩ dst r))
theorem callGo_of_X {dst : Option Nat} {f : Opd} {args : List Opd} {K : State → Prop} (h : callXGo P σ dst f args K) : callGo P σ dst f args K := by
  obtain ⟨fid, caps, us, h1, h2, h3, h4 | ⟨Q, nf, hnf, h4, h5⟩⟩ := h
  · exact ⟨fid, caps, us, h1, h2, h3, .inl h4⟩
  · exact ⟨fid, caps, us, h1, h2, h3, .inr ⟨Q, nf, hnf, h4, fun r H' hq => (h5 r H' hq).2⟩⟩
theorem callGo_of_P {dst : Option Nat} {f : Opd} {args : List Opd} {K : State → Prop} (h : callPGo P σ dst f args K) : callGo P σ dst f args K := by
  obtain ⟨fid, caps, us, r, h1, h2, h3, h4, h5, h6, h7⟩ := h
  exact ⟨fid, caps, us, h1, h2, h3, .inl ⟨r, h4, h5, h6, h7⟩⟩
theorem call_sound (h : St E n σ a w g) {dst : Option Nat} (hdst : ∀ d, dst = some d → d < n) {type : Nat} {pos : String} {after : Array Edge} {guard : Option (Nat × Bool)} {tf : Nat} {f : Operand} {f' : Opd} {xs : List Operand} {xs' : List Opd} {tys argTys : List Nat} (hf : cOpd P tf f = some f') (hxs : cOpds P tys xs = some xs')
    {K : State → Prop} (hgo : callGo P σ dst f' xs' K) {Q : Exit → Act → World → Prop} {next : Act → World → Prop} (hnext : ∀ σ' a' w' g', K σ' → St E n σ' a' w' g' → next a' w') :
    Oper.wp P ⟨dst, .call { callee := .value f, args := xs.toArray, argTypes := argTys.toArray }, type, pos, after, guard⟩ a w next Q := by
  obtain ⟨fid, caps, us, e1, e2, ⟨d, rfl⟩, hcase⟩ := hgo
  have hfr := (ev_rel h hf e1 0 0).c_inv
  obtain ⟨fv, hfv⟩ : ∃ fv, fv = a.eval f := ⟨_, rfl⟩
  rw [← hfv] at hfr
  cases hfr with
  | pure hc => cases hc
  | fn cv q1 q2 q3 =>
    have hargs := fun nf (hnf : Hand nf) => args_rel (P := P) h hxs e2 q1 (fun j c hc q => (q3 j c hc).place (q2 c (List.mem_of_getElem? hc))) hnf
    have hrun : Callable P fid → (execOp a.eval ⟨some d, .call { callee := .value f, args := xs.toArray, argTypes := argTys.toArray }, type, pos, after, guard⟩).run P w = .ok (.enter fid ((xs.map a.eval).toArray ++ cv)) w := fun hcl => by
      simp [execOp, resolve, ← hfv, Deferred.ofValue, invoke, run_callFunc hcl]
    unfold Oper.wp
    rcases hcase with ⟨r, ⟨hcl, hcalls⟩, hfree, hres, hK⟩ | ⟨QQ, nf, hnf, ⟨hcl, hcalls⟩, hK⟩
    · obtain ⟨l1, l2⟩ := hargs AV.norm (.inl rfl)
      rw [hrun hcl, Oper.upon_enter]
      have hs := HSt.bare (w := w) h.heap.lim
      refine (hcalls w g.bare _ hs l1 (fun i x hx => ⟨(l2 i x hx).1, fun k t => ?_⟩)).mono fun e w' hpost => ?_
      · have := (l2 i x hx).2 k t
        exact this.all (g' := g.bare) (w' := w) (p := AC.free) (fun i j c u hp (hx : XRel w g _ c u) => hx.free (g' := g.bare) hp (fun _ _ _ _ hv => hv) fun _ => Nat.le_refl _) (List.all_eq_true.1 hfree x (List.mem_of_getElem? hx))
      · obtain ⟨v, g', rfl, p1, p2, p3, p4, p5⟩ := hpost
        exact hnext _ _ _ _ hK (h.callP (hdst d rfl) p2 hres p3 p4 p1.lim)
    · obtain ⟨l1, l2⟩ := hargs nf hnf
      rw [hrun hcl, Oper.upon_enter]
      refine (hcalls w g _ h.heap l1 l2).mono fun e w' hpost => ?_
      obtain ⟨r, H', v, g', hq, rfl, p1, p2, p3, p4, p5⟩ := hpost
      exact hnext _ _ _ _ (hK r H' hq) (h.callH (hdst d rfl) p1 p2 p3 p4 p5)
end
end Go.AI

set_option linter.unusedVariables false
set_option linter.unusedSimpArgs false
namespace Go.AI
open Go Go.RowKit Go.Lib
section
variable {P : Program} {E : Entry} {n : Nat} {σ σ' : State} {a : Act} {w : World} {g : Gh} {tk : List Nat} {v : AV}
  {type : Nat} {pos : String} {after : Array Edge} {guard : Option (Nat × Bool)} {iop : IOp}

/-- A block that is read alone from now on: the heap does not list it any more. -/
theorem St.freeze (h : St E n σ a w g) {id : Nat} {b0 : Blk} (hid : σ.heap[id]? = some b0) (hb0 : b0.live = true) (k : Nat) : St E n ⟨σ.env, σ.heap.set id .dead⟩ a w (g.setL (g.β id) k) := by
  have hrel := h.heap.rel id _ hid
  obtain ⟨l1, l2, l3⟩ := hrel.lt hb0
  have hlt : id < σ.heap.length := (List.getElem?_eq_some_iff.1 hid).1
  have old : ∀ j b, (σ.heap.set id Blk.dead)[j]? = some b → b.live = true → σ.heap[j]? = some b ∧ j ≠ id := fun j b hj hb => by
    rw [List.getElem?_set] at hj
    by_cases e : id = j
    · subst e
      rw [if_pos rfl, if_pos hlt] at hj
      obtain rfl := Option.some.inj hj; cases hb
    · rw [if_neg e] at hj; exact ⟨hj, fun e' => e e'.symm⟩
  have h1 : St E n ⟨σ.env, σ.heap.set id .dead⟩ a w g := by
    refine ⟨h.defers, h.size, h.env, ⟨by simp [h.heap.len], fun j b hj => ?_, fun j j' b b' q1 q2 q3 q4 q5 => ?_, h.heap.lim⟩, fun j b hj hb => h.baseH j b (old j b hj hb).1 hb, h.baseO, h.evo⟩
    · cases hb : b.live with
      | true => exact h.heap.rel j b (old j b hj hb).1
      | false => cases b with
        | dead => exact .dead
        | _ => cases hb
    · exact h.heap.inj j j' b b' (old j b q1 q3).1 (old j' b' q2 q4).1 q3 q4 q5
  refine h1.ext (N := fun x => x = g.β id) ⟨⟨rfl, rfl, rfl, Nat.le_refl _, fun _ _ _ => rfl, fun x _ hx => by simp [Gh.setL, hx], fun _ _ _ _ hv => hv, fun x => ?_⟩, Nat.le_refl _, fun _ _ => rfl, fun _ _ => rfl⟩ rfl
    (fun x _ hx => by rw [hx]; exact h.baseH id _ hid hb0) (fun j b hj hb hx => ?_) (fun x p hx hp => ⟨(fun he => by rw [he, l3] at hp; cases hp), hp⟩) (fun x _ hx _ => hx) (fun x _ hx hp => by rw [hx] at hp; exact hp l3) (fun x hx => ?_)
  · simp only [Gh.setL]
    split
    · rename_i e; rw [e, l2]; exact Nat.zero_le _
    · exact Nat.le_refl _
  · obtain ⟨q1, q2⟩ := old j b hj hb
    exact q2 (h.heap.inj j id b _ q1 hid hb hb0 hx)
  · obtain ⟨q1, q2⟩ := h.heap.lim x hx
    have : x ≠ g.β id := by omega
    exact ⟨by simp [Gh.setL, this, q1], q2⟩

theorem asl_sound (h : St E n σ a w g) {t e m k tx d : Nat} {x : Operand} {x' : Opd} (hd : d < n) (hs : P.underlying t = some (.array m e)) (hz : szOf P e = some k) (hx : cOpd P tx x = some x') (hv : σ.step (some d) (.asl m k x') = some σ') :
    Did P E n a w ⟨some d, .slice t x none none none, type, pos, after, guard⟩ σ' := by
  simp only [State.step] at hv
  split at hv
  · rename_i cs d' he hd'
    injection hd' with hd'; subst hd'
    split at hv
    · rename_i hb
      obtain rfl := Option.some.inj hv
      have hr := (ev_rel h hx he 0 0).c_inv
      generalize hx0 : a.eval x = x0 at hr
      cases hr with
      | pure hc => cases hc
      | eptr vs q1 q2 q3 =>
        rename_i b o
        obtain ⟨c1, c2, c3⟩ := chunk_get m k (cs.take (m * k)) (by simp; omega)
        refine ⟨.slice (some (if m = 0 then ⟨b, o, none⟩ else Addr.add ⟨b, o, none⟩ (0 * k))) (m - 0) (m - 0), w, g, .inl ?_, h.put hd (.s (.c (.pure ?_)))⟩
        · simp [execOp, Instr.sliceAt, run_underlying hs, hx0, Instr.sureAddr, Instr.sliceBounds, run_sizeOf hz]
        · have hm : m ≠ 0 := by omega
          simp only [Nat.zero_mul, Nat.sub_zero, if_neg hm, Addr.add_lit, Nat.add_zero]
          refine .list 1 k _ b o m m vs (by omega) (fun _ => c1.symm) c1.symm (by omega) c2 (by rw [c1]; omega) (fun i hi => q2 i (by rw [c1] at hi; omega)) (fun i y hy j c hc => ?_)
          obtain ⟨c', g1, rfl⟩ := c3 i y hy j c hc
          rw [List.getElem?_take] at g1
          split at g1
          · exact (q3 _ _ g1).normed
          · cases g1
    · cases hv
  · rename_i id d' he hd'
    injection hd' with hd'; subst hd'
    split at hv
    · rename_i cs hcs
      split at hv
      · rename_i hb
        obtain ⟨hb1, hb2, hb3⟩ := hb
        obtain rfl := Option.some.inj hv
        obtain ⟨p1, p2⟩ := (ev_rel h hx he 0 0).c_inv.ptr_inv
        have hrel := h.heap.rel id _ hcs
        cases hrel with
        | cells r1 r2 r3 r4 r5 =>
          rename_i vs T
          obtain ⟨c1, c2, c3⟩ := chunk_get m k cs hb1
          have hf := h.freeze hcs rfl (m * k)
          refine ⟨.slice (some (if m = 0 then ⟨g.β id, 0, none⟩ else Addr.add ⟨g.β id, 0, none⟩ (0 * k))) (m - 0) (m - 0), w, _, .inl ?_, hf.put hd (.s (.c (.pure ?_)))⟩
          · simp [execOp, Instr.sliceAt, run_underlying hs, p2, Instr.sureAddr, Instr.sliceBounds, run_sizeOf hz]
          · have hm : m ≠ 0 := by omega
            simp only [Nat.zero_mul, Nat.sub_zero, if_neg hm, Addr.add_lit, Nat.add_zero]
            refine .list 1 k _ (g.β id) 0 m m (fun i => vs.getD i undef) (by omega) (fun _ => c1.symm) c1.symm (by omega) c2 (by rw [c1]; simp [Gh.setL]) (fun i hi => ?_) (fun i y hy j c hc => ?_)
            · rw [c1, ← hb1, r2] at hi
              rw [cell_of_row _ _ _ _ _ _ r1]
              simp [Array.getD_eq_getD_getElem?, hi]
            · obtain ⟨c', g1, rfl⟩ := c3 i y hy j c hc
              have hp : c'.pure = true := List.all_eq_true.1 hb3 _ (List.mem_of_getElem? g1)
              have := (r3 _ _ g1).toC hp
              refine (this.keep (fun _ _ _ _ hv => hv) fun x => ?_).normed
              simp only [Gh.setL]
              split
              · rename_i e; rw [e, r4]; exact Nat.zero_le _
              · exact Nat.le_refl _
      · cases hv
    · cases hv
  · cases hv

theorem zeroCells_get (zc : Array Value) (m i j : Nat) (hi : i < m) (hj : j < zc.size) : (Builtin.zeroCells zc m)[i * zc.size + j]? = some (zc.getD j undef) := by
  have hlt : i * zc.size + j < m * zc.size := by
    have : (i + 1) * zc.size ≤ m * zc.size := Nat.mul_le_mul_right _ hi
    rw [Nat.add_mul] at this; omega
  unfold Builtin.zeroCells
  rw [Array.getElem?_map, Array.getElem?_range, if_pos hlt]
  simp only [Option.map_some, Option.some.injEq]
  rw [Nat.mul_comm, Nat.mul_add_mod, Nat.mod_eq_of_lt hj]
  simp [Array.getD_eq_getD_getElem?, hj]
theorem St.grownA (h : St E n σ a w g) {e esz : Nat} {zs : List (List AC)} {olds news : List Value} {z : Value} {cap need : Nat} {zr : List AC} (hneed : zs.length = need) (hcap : need ≤ cap) (hcm : cap ≤ maxLen) (hz : z.cells.size = esz) (hl : (olds ++ news).length = need * esz) (hzl : ∀ x ∈ zs, x.length = esz)
    (hr : ∀ i x, zs[i]? = some x → ∀ j a, x[j]? = some a → ∃ u, (olds ++ news)[i * esz + j]? = some u ∧ CRel w g.L a u) (hzr : zr.length = esz ∧ ∀ (w : World) (g : Gh) (j : Nat) (a : AC), zr[j]? = some a → CRel w g.L a (z.cells.getD j undef)) {d : Nat} (hd : d < n) :
    ∃ g', St E n ⟨AI.put σ.env d (.c (.sl σ.heap.length esz 0 need cap)), σ.heap ++ [.arr e esz (zs ++ List.replicate (cap - need) zr)]⟩ (a.put (some d) (.slice (some ⟨w.heap.size, 0, none⟩) need cap)) (w.drew.alloc (.cells (olds.toArray ++ news.toArray ++ Builtin.zeroCells z.cells (cap - need)) e)) g' := by
  have h1 : St E n σ a w.drew g := h.drawn _
  have hsz : w.drew.heap.size = w.heap.size := rfl
  have hm : (g.more w.heap.size cap).β g.m = w.heap.size := by simp [Gh.more]
  obtain ⟨hL, hO⟩ := h.heap.lim w.heap.size (Nat.le_refl _)
  have hext := GExt.more w.drew g w.heap.size cap (.cells (olds.toArray ++ news.toArray ++ Builtin.zeroCells z.cells (cap - need)) e)
  have h2 := h1.allocH (.cells (olds.toArray ++ news.toArray ++ Builtin.zeroCells z.cells (cap - need)) e) (.arr e esz (zs ++ List.replicate (cap - need) zr)) cap (by
    refine .arr (cur := olds.toArray ++ news.toArray ++ Builtin.zeroCells z.cells (cap - need)) (cap := cap) ?_ ?_ (by simp [Gh.more]) (by rw [List.length_append, List.length_replicate, hneed]; omega) hcm (fun x hx => ?_) (fun i x hx j c hc => ?_) ?_ ?_
    · rw [hsz, hm]; exact heap_alloc_new w.drew _
    · simp only [Array.size_append, List.size_toArray, size_zeroCells, hz]
      rw [← List.length_append, hl, ← Nat.add_mul]
      congr 1; omega
    · rcases List.mem_append.1 hx with hx | hx
      · exact hzl x hx
      · rw [(List.mem_replicate.1 hx).2]; exact hzr.1
    · have hap : olds.toArray ++ news.toArray = (olds ++ news).toArray := by simp
      by_cases hi : i < zs.length
      · rw [List.getElem?_append_left hi] at hx
        obtain ⟨u, hu, hc'⟩ := hr i x hx j c hc
        have hget : (olds.toArray ++ news.toArray ++ Builtin.zeroCells z.cells (cap - need)).getD (i * esz + j) undef = u := by
          have hlt : i * esz + j < (olds ++ news).length := (List.getElem?_eq_some_iff.1 hu).1
          rw [Array.getD_eq_getD_getElem?, hap, Array.getElem?_append_left (by simpa using hlt)]
          simp only [List.getElem?_toArray]
          rw [hu]; rfl
        rw [hget]
        have hc2 : CRel w.drew g.L c u := CRel.keep (w := w) (w' := w.drew) (L := g.L) (L' := g.L) (fun b o v ho hv => hv) (fun _ => Nat.le_refl _) hc'
        exact hc2.keep hext.evo.cell hext.evo.mono
      · rw [List.getElem?_append_right (by omega), List.getElem?_replicate] at hx
        split at hx
        · rename_i hlt
          obtain rfl := Option.some.inj hx
          have hj : j < z.cells.size := by rw [hz, ← hzr.1]; exact (List.getElem?_eq_some_iff.1 hc).1
          have hget : (olds.toArray ++ news.toArray ++ Builtin.zeroCells z.cells (cap - need)).getD (i * esz + j) undef = z.cells.getD j undef := by
            have he : i * esz + j = (olds ++ news).length + ((i - zs.length) * z.cells.size + j) := by
              rw [hl, hz, ← hneed, Nat.sub_mul]
              have := Nat.mul_le_mul_right esz (Nat.le_of_not_lt hi)
              omega
            rw [Array.getD_eq_getD_getElem?, hap, he, Array.getElem?_append_right (by simp)]
            have e2 : (olds ++ news).length + ((i - zs.length) * z.cells.size + j) - (olds ++ news).toArray.size = (i - zs.length) * z.cells.size + j := by simp
            rw [e2, zeroCells_get _ _ _ _ hlt hj]; rfl
          rw [hget]
          exact hzr.2 _ _ j c hc
        · cases hx
    · rw [hsz, hm]; exact hL
    · rw [hsz, hm]; exact hO)
  refine ⟨_, h2.put hd (.s (.c ?_))⟩
  have hp := XRel.sl (w := w.drew.alloc (.cells (olds.toArray ++ news.toArray ++ Builtin.zeroCells z.cells (cap - need)) e)) (g := g.more w.drew.heap.size cap) (p := (0, d, 0, 0)) (id := g.m) (esz := esz) (off := 0) (len := need) (c := cap) (Nat.lt_succ_self _) (by simp [Gh.more]) hcap
  rw [hsz, hm, Nat.zero_mul] at hp
  rw [h.heap.len]
  exact hp

theorem appA_sound (h : St E n σ a w g) {t u ty e : Nat} {i : TypeInfo} {z : Value} {zr : List AC} (ht : P.underlying t = some (.slice e)) (hu : (∃ e', P.underlying u = some (.slice e')) ∨ P.underlying u = some .string) (hi : P.info? e = some i) (hz : i.zero = some z) (hzs : z.cells.size = i.size)
    (hzr : zr.length = i.size ∧ ∀ (w : World) (g : Gh) (j : Nat) (a : AC), zr[j]? = some a → CRel w g.L a (z.cells.getD j undef))
    {ts : Nat} {s : Operand} {s' : Opd} (hs : cOpd P ts s = some s') {xs ys : List (List AC)} (hraw : σ.raw s' = some (.c (.list 1 i.size xs))) {x : Value} {news : List Value} (hsrc : Src P w i.size ys.length x news)
    (hyl : ∀ y ∈ ys, y.length = i.size) (hyr : ∀ k y, ys[k]? = some y → ∀ j a, y[j]? = some a → ∃ u, news[k * i.size + j]? = some u ∧ CRel w g.L a u) (hb : (xs.length + ys.length) * i.bytes ≤ 140737488355328) (h63 : xs.length + ys.length ≤ 9223372036854775807) {d : Nat} (hd : d < n) :
    ∃ y w' g', (Builtin.append_ #[t, u] ty #[a.eval s, x]).run P w = .ok y w' ∧ (ys = [] → St E n ⟨AI.put (σ.take s').env d (.c (.list 1 i.size xs)), σ.heap⟩ (a.put (some d) y) w' g') ∧
      (ys ≠ [] → ∃ extra, extra ≤ maxLen ∧ St E n ⟨AI.put (σ.take s').env d (.c (.sl σ.heap.length i.size 0 (xs.length + ys.length) (xs.length + ys.length + extra))), σ.heap ++ [.arr e i.size (xs ++ ys ++ List.replicate extra zr)]⟩ (a.put (some d) y) w' g') := by
  obtain ⟨g1, h1, hL, hβ, hn1, hside⟩ := raw_rel h hs hraw
  have hheap : (σ.take s').heap = σ.heap := by
    cases s' with
    | t q => simp only [State.take]; split <;> rfl
    | c q => rfl
  rw [← hheap]
  have hm63 : xs.length + ys.length ≤ maxLen := by simp only [maxLen]; omega
  have hc : CRel w g.L (.list 1 i.size xs) (a.eval s) := by
    rcases hside with ⟨q, rfl, hrel, hdrop⟩ | ⟨hsh, hrel⟩
    · exact hrel.c_inv.toC rfl
    · exact (hrel 0 0).c_inv.toC rfl
  obtain ⟨olds, osrc, oxl, oxr⟩ := Src.list (P := P) hc
  have hform : ∃ A, a.eval s = .slice A xs.length xs.length := by
    generalize a.eval s = sv at hc
    cases hc with
    | nil _ _ A c q1 q2 => exact ⟨A, by rw [q2 rfl]; rfl⟩
    | list _ _ _ b o nn c vs q1 q2 qn => exact ⟨_, by rw [q2 rfl, qn]⟩
  obtain ⟨A, hA⟩ := hform
  rcases Nat.eq_zero_or_pos ys.length with h0 | h0
  · have hy0 : ys = [] := List.eq_nil_of_length_eq_zero h0
    subst hy0
    refine ⟨a.eval s, w, g1, by rw [hA]; exact run_app_same ht hu hi hsrc A _ _ (Nat.le_refl _), fun _ => ?_, fun hne => absurd rfl hne⟩
    exact h1.put hd (.s (.c (.pure (by rw [hL]; exact hc))))
  · have hrun := run_app_grow (ty := ty) ht hu hi hz hsrc A xs.length xs.length olds (fun w' hw => by rw [← hA]; exact osrc.cells w' hw) (by omega) h63 hb
    have hge := grownCap_ge w (xs.length + ys.length) xs.length e
    obtain ⟨g2, h2⟩ := h1.grownA (e := e) (esz := i.size) (zs := xs ++ ys) (olds := olds) (news := news) (z := z) (zr := zr) (cap := grownCap w (xs.length + ys.length) xs.length e) (need := xs.length + ys.length) (by simp) hge (grownCap_le_maxLen _ _ _ _ hm63) hzs
      (by rw [List.length_append, osrc.num, hsrc.num, Nat.add_mul]) (fun q hq => (List.mem_append.1 hq).elim (oxl q) (hyl q)) (by rw [hL]; exact rows_append osrc.num oxl oxr hyr) hzr hd
    refine ⟨_, _, g2, by rw [hA]; exact hrun, fun e0 => by subst e0; simp at h0, fun _ => ⟨grownCap w (xs.length + ys.length) xs.length e - (xs.length + ys.length), by have := grownCap_le_maxLen w (xs.length + ys.length) xs.length e hm63; omega, ?_⟩⟩
    rw [show xs.length + ys.length + (grownCap w (xs.length + ys.length) xs.length e - (xs.length + ys.length)) = grownCap w (xs.length + ys.length) xs.length e by omega]
    exact h2

theorem frz_sound (h : St E n σ a w g) {s d : Nat} (hd : d < n) (hv : σ.step (some d) (.frz s) = some σ') :
    Did P E n a w ⟨some d, .move (.tmp s), type, pos, after, guard⟩ σ' ∧ Did P E n a w ⟨some d, .assign (.tmp s), type, pos, after, guard⟩ σ' := by
  have key : St E n σ' (a.put (some d) (a.eval (.tmp s))) w g ∨ ∃ g', St E n σ' (a.put (some d) (a.eval (.tmp s))) w g' := by
    simp only [State.step] at hv
    split at hv
    · rename_i id esz len cc d' hlook hd'
      injection hd' with hd'; subst hd'
      split at hv
      · rename_i e k xs hid
        split at hv
        · rename_i hb
          obtain ⟨rfl, hlen, hpos⟩ := hb
          obtain rfl := Option.some.inj hv
          have hr := (h.env s _ hlook).2.c_inv
          have hev : a.eval (.tmp s) = a.tmps.getD s undef := rfl
          rw [hev]
          generalize a.tmps.getD s undef = x0 at hr
          cases hr with
          | pure hc => cases hc
          | sl q1 q2 q3 =>
            have hrel := h.heap.rel id _ hid
            cases hrel with
            | arr r1 r2 r3 r4 r5 r6 r7 r8 r9 =>
              rename_i cur cap
              have hf := h.freeze hid rfl (xs.length * k)
              refine .inr ⟨_, hf.put hd (.s (.c (.pure ?_)))⟩
              rw [Nat.zero_mul]
              refine .list 0 k xs (g.β id) 0 _ cc (fun i => cur.getD i undef) (by omega) (by omega) hlen.symm (by omega) r6 (by simp [Gh.setL]) (fun i hi => ?_) (fun i x hx j c' hc' => ?_)
              · have hi2 : i < cur.size := by
                  rw [r2]
                  exact Nat.lt_of_lt_of_le hi (Nat.mul_le_mul_right _ r4)
                rw [cell_of_row _ _ _ _ _ _ r1]
                simp [Array.getD_eq_getD_getElem?, hi2]
              · refine (r7 i x hx j c' hc').keep (fun _ _ _ _ hv => hv) fun y => ?_
                simp only [Gh.setL]
                split
                · rename_i e'; rw [e', r8]; exact Nat.zero_le _
                · exact Nat.le_refl _
        · cases hv
      · cases hv
    · rename_i lv k xs d' hlook hd'
      injection hd' with hd'; subst hd'
      obtain rfl := Option.some.inj hv
      have he : σ.ev (.t s) = some (AV.c (.list lv k xs)).share := by simp [State.ev, hlook]
      exact .inl (h.put hd (ev_rel (P := P) (ty := 0) h (x := .tmp s) rfl he 0 d))
    · cases hv
  have fin : ∀ g', St E n σ' (a.put (some d) (a.eval (.tmp s))) w g' → Did P E n a w ⟨some d, .move (.tmp s), type, pos, after, guard⟩ σ' ∧ Did P E n a w ⟨some d, .assign (.tmp s), type, pos, after, guard⟩ σ' := fun g' hst =>
    ⟨⟨_, w, g', .inl (by simp [execOp]), hst⟩, ⟨_, w, g', .inl (by simp [execOp]), hst⟩⟩
  rcases key with k | ⟨g', k⟩
  · exact fin _ k
  · exact fin _ k
end
end Go.AI

set_option linter.unusedVariables false
set_option linter.unusedSimpArgs false
namespace Go.AI
open Go Go.RowKit Go.Lib

section
variable {P : Program} {E : Entry} {n : Nat} {σ σ' : State} {a : Act} {w : World} {g : Gh} {tk : List Nat} {v : AV}
  {dst : Option Nat} {type : Nat} {pos : String} {after : Array Edge} {guard : Option (Nat × Bool)} {iop : IOp}

theorem Runs.did (h : St E n σ a w g) {o : Oper} (hdst : ∀ d, o.dst = some d → d < n) (hr : Runs P a w g o v) : Did P E n a w o (σ.setD o.dst v) := by
  obtain ⟨x, h1, h2⟩ := hr
  refine ⟨x, w, g, .inl h1, ?_⟩
  unfold State.setD
  split
  · rename_i d hd
    rw [hd]; exact h.put (hdst d hd) (h2 0 d)
  · rename_i hd
    rw [hd]; exact h

def IOp.quiet : IOp → Bool
  | .movT .. | .alloc .. | .box .. | .bsl .. | .s2b .. | .loadT .. | .store .. | .append .. | .appA .. | .frz .. | .srt | .asl .. => false
  | _ => true
theorem step_quiet (h : iop.quiet = true) : σ.step dst iop = (σ.pure iop).map (σ.setD dst) := by
  cases iop <;> first | rfl | cases h
/-- An operation that is no call of a function. -/
theorem step_sound (h : St E n σ a w g) {o : Oper} (hdst : ∀ d, o.dst = some d → d < n) (hc : cOp P tk o = some iop) (hv : σ.step o.dst iop = some σ') : Did P E n a w o σ' := by
  have quiet : (σ.pure iop).map (σ.setD o.dst) = some σ' → Did P E n a w o σ' := fun hv => by
    obtain ⟨v, hv', rfl⟩ := Option.map_eq_some_iff.1 hv
    exact (pure_sound h hc hv').did h hdst
  obtain ⟨dst, op, type, pos, after, guard⟩ := o
  cases op with
  | move x =>
    have hc0 := hc
    simp only [cOp] at hc
    split at hc
    · split at hc
      · obtain rfl := Option.some.inj hc; exact (frz_sound h (hdst _ rfl) hv).1
      split at hc
      · obtain rfl := Option.some.inj hc; exact (movT_sound h (hdst _ rfl) hv).1
      · obtain rfl := Option.some.inj hc; exact quiet hv
    · obtain ⟨y, hy, rfl⟩ := Option.map_eq_some_iff.1 hc
      exact quiet hv
  | assign x =>
    have hc0 := hc
    simp only [cOp] at hc
    split at hc
    · split at hc
      · obtain rfl := Option.some.inj hc; exact (frz_sound h (hdst _ rfl) hv).2
      split at hc
      · obtain rfl := Option.some.inj hc; exact (movT_sound h (hdst _ rfl) hv).2
      · obtain rfl := Option.some.inj hc; exact quiet hv
    · obtain ⟨y, hy, rfl⟩ := Option.map_eq_some_iff.1 hc
      exact quiet hv
  | alloc e =>
    simp only [cOp] at hc
    obtain ⟨z, hz, rfl⟩ := Option.map_eq_some_iff.1 hc
    cases dst with
    | none => simp [State.step] at hv
    | some d => obtain rfl := Option.some.inj hv; exact alloc_sound h (hdst _ rfl) hz
  | box e x =>
    simp only [cOp] at hc
    obtain ⟨x', hx, rfl⟩ := Option.map_eq_some_iff.1 hc
    cases dst with
    | none => simp only [State.step] at hv; split at hv <;> simp_all
    | some d => exact box_sound h (hdst _ rfl) hx hv
  | buildSlice t len parts =>
    cases dst with
    | none =>
      simp only [cOp] at hc
      split at hc
      · split at hc
        · split at hc
          · obtain ⟨z, hz, rfl⟩ := Option.map_eq_some_iff.1 hc
            simp only [State.step] at hv; split at hv <;> simp_all
          · cases hc
        · cases hc
      · cases hc
    | some d => exact bsl_sound h (hdst _ rfl) hc hv
  | load t x =>
    have hc0 := hc
    simp only [cOp] at hc
    split at hc
    · rename_i x' d h1 h2
      split at hc
      · obtain rfl := Option.some.inj hc; exact loadT_sound h (hdst _ rfl) h1 h2 hv
      · obtain rfl := Option.some.inj hc; exact quiet hv
    · obtain rfl := Option.some.inj hc; exact quiet hv
    · cases hc
  | store t x y =>
    simp only [cOp] at hc
    split at hc
    · rename_i m x' y' h1 h2 h3
      obtain rfl := Option.some.inj hc
      exact store_sound h h1 h2 h3 hv rfl
    · cases hc
  | convert src d x =>
    have hc0 := hc
    simp only [cOp] at hc
    split at hc
    · obtain rfl := Option.some.inj hc; exact quiet hv
    · obtain rfl := Option.some.inj hc; exact quiet hv
    · split at hc
      · obtain rfl := Option.some.inj hc; exact quiet hv
      · cases hc
    · rename_i e x' h1 h2 h3
      split at hc
      · rename_i h4 h5
        obtain rfl := Option.some.inj hc
        cases dst with
        | none => simp only [State.step] at hv; split at hv <;> simp_all
        | some d' => exact s2b_sound h (hdst _ rfl) h1 h2 h4 h5 h3 hv
      · cases hc
    · cases hc
  | call c =>
    obtain ⟨callee, args, argTypes⟩ := c
    have hc0 := hc
    simp only [cOp] at hc
    split at hc
    · split at hc
      · obtain rfl := Option.some.inj hc; simp [State.step, State.pure] at hv
      · cases hc
    · split at hc
      · split at hc
        · obtain rfl := Option.some.inj hc; exact quiet hv
        · obtain rfl := Option.some.inj hc; exact quiet hv
        · cases hc
      · cases hc
    · obtain ⟨xs, hxs, rfl⟩ := Option.map_eq_some_iff.1 hc; exact quiet hv
    · obtain ⟨xs, hxs, rfl⟩ := Option.map_eq_some_iff.1 hc; exact quiet hv
    · split at hc
      · rename_i s x t u h1 h2
        have h1' : args = #[s, x] := by simpa using congrArg List.toArray h1
        have h2' : argTypes = #[t, u] := by simpa using congrArg List.toArray h2
        subst h1'; subst h2'
        split at hc
        · rename_i e s' x' ht hs hx
          split at hc
          · rename_i i z hi hz
            split at hc
            · rename_i hcond
              obtain ⟨zv, i', hi', hiz, hisz, hzs, hzr, hzx⟩ := zeroOf_rel hz
              rw [hi] at hi'; obtain rfl := Option.some.inj hi'
              simp only [Bool.and_eq_true, decide_eq_true_eq] at hcond
              obtain ⟨hpos, hu⟩ := hcond
              have hu' : (∃ e', P.underlying u = some (.slice e')) ∨ P.underlying u = some .string := by
                unfold appSrc at hu
                split at hu
                · rename_i e' he'; exact .inl ⟨e', he'⟩
                · rename_i he'; exact .inr he'
                · cases hu
              have hrun : ∀ y w', (Builtin.append_ #[t, u] type #[a.eval s, a.eval x]).run P w = .ok y w' → (execOp a.eval ⟨dst, .call { callee := .builtin .append, args := #[s, x], argTypes := #[t, u] }, type, pos, after, guard⟩).run P w = .ok (.value y) w' := fun y w' hr => by
                simp [execOp, resolve, invoke, builtin, hr]
              split at hc
              · obtain rfl := Option.some.inj hc; simp [State.step, State.pure] at hv
              · rename_i hna; clear hna
                obtain rfl := Option.some.inj hc
                simp only [State.step] at hv
                split at hv
                · rename_i lv k xs lv' k' ys d hraw hev
                  split at hv
                  · rename_i hq
                    obtain ⟨rfl, rfl, hlv⟩ := hq
                    split at hv
                    · rename_i hb
                      obtain rfl := Option.some.inj hv
                      obtain ⟨news, hsrc, hyl, hyr⟩ := Src.list (P := P) (ev_rel h hx hev 0 0).c_inv.list_inv
                      obtain ⟨y, w', g', hr, hst⟩ := append_sound (ty := type) h ht hu' hi hiz (by rw [hzs, hisz]) hs hraw hlv hsrc hyl hyr hb.1 hb.2 (hdst d rfl)
                      exact ⟨y, w', g', .inl (hrun _ _ hr), hst⟩
                    · cases hv
                  · cases hv
                · rename_i lv k xs tt d hraw hev
                  split at hv
                  · rename_i hq
                    obtain ⟨rfl, hone, hlv⟩ := hq
                    split at hv
                    · rename_i hb
                      obtain rfl := Option.some.inj hv
                      have es := (ev_rel h hx hev 0 0).c_inv.str_inv
                      obtain ⟨hsrc, hyl, hyr⟩ := Src.str (P := P) (w := w) g.L tt
                      have hlen : (encB tt.data.toList).length = tt.size := by simp [encB]
                      rw [es] at hrun
                      obtain ⟨y, w', g', hr, hst⟩ := append_sound (ty := type) (ys := encB tt.data.toList) (news := strCells tt) h ht hu' hi hiz (by rw [hzs, hisz]) hs hraw hlv (by rw [hone]; exact hsrc) (by rw [hone]; exact hyl) (by rw [hone]; exact hyr) (by rw [hlen]; exact hb.1) (by rw [hlen]; exact hb.2) (hdst d rfl)
                      exact ⟨y, w', g', .inl (hrun _ _ hr), hst⟩
                    · cases hv
                  · cases hv
                · cases hv
            · cases hc
          · cases hc
        · cases hc
      · cases hc
    · cases hc
  | makeFunc fn first caps =>
    have hq : iop.quiet = true := by
      cases fn <;> simp only [cOp] at hc <;> first
        | (split at hc
           · obtain ⟨_, _, rfl⟩ := Option.map_eq_some_iff.1 hc; rfl
           · cases hc)
        | cases hc
    rw [step_quiet hq] at hv
    exact quiet hv
  | slice t x lo hi mx =>
    simp only [cOp] at hc
    split at hc
    · obtain rfl := Option.some.inj hc
      rw [step_quiet rfl] at hv; exact quiet hv
    · obtain ⟨m, hm, rfl⟩ := Option.map_eq_some_iff.1 hc
      rw [step_quiet rfl] at hv; exact quiet hv
    · rename_i m e x' h1 h2 h3 h4 h5
      obtain ⟨k, hk, rfl⟩ := Option.map_eq_some_iff.1 hc
      have e1 : lo = none := by unfold cOption at h3; split at h3 <;> simp_all
      have e2 : hi = none := by unfold cOption at h4; split at h4 <;> simp_all
      have e3 : mx = none := by unfold cOption at h5; split at h5 <;> simp_all
      subst e1; subst e2; subst e3
      cases dst with
      | none => simp [State.step] at hv
      | some d => exact asl_sound h (hdst d rfl) h1 hk h2 hv
    · cases hc
  | _ =>
    have hq : iop.quiet = true := by
      simp only [cOp] at hc
      (repeat' split at hc) <;> first
        | (cases hc; done)
        | (obtain rfl := Option.some.inj hc; rfl)
        | (obtain ⟨_, _, rfl⟩ := Option.map_eq_some_iff.1 hc; rfl)
        | (obtain ⟨_, _, hc⟩ := Option.map_eq_some_iff.1 hc; cases hc; rfl)
    rw [step_quiet hq] at hv
    exact quiet hv
end
end Go.AI

set_option linter.unusedVariables false
set_option linter.unusedSimpArgs false
namespace Go.AI
open Go Go.RowKit Go.Lib

/-! ### Slices that may be written -/
/-- The rows of a block, some replaced. -/
def spl {α : Type} (xs : List α) (off : Nat) (us : List α) : List α := xs.take off ++ us ++ xs.drop (off + us.length)
/-- A slice's elements. -/
def State.srcRows (σ : State) : AV → Option (Nat × List (List AC))
  | .c (.list _ k ys) => some (k, ys)
  | .c (.sl id k off len _) => match σ.heap[id]? with
    | some (.arr _ k' xs) => if k = k' ∧ off + len ≤ xs.length then some (k, (xs.drop off).take len) else none
    | _ => none
  | _ => none
/-- slices.overlaps, at these types. -/
def OvlOk (P : Program) (f t : Nat) : Prop := ∃ r : Nat, ∀ (args : Array Value) (w : World), (callFunc f args).run P w = ((Extern.SlicesOverlaps.overlaps #[t, t] #[r] args).run P w).andThen fun v w' => .ok (.value v) w'

def arrOp (P : Program) (tk : List Nat) (o : Oper) : Option AOp :=
  match o.dst with
  | some d => if tk.contains (d + 3000000) then match o.op with
    | .call c => match c.callee, c.args.toList, c.argTypes.toList with
      | .builtin .copy, [s, x], [t, u] => match P.underlying t, cOpd P t s, cOpd P u x with
        | some (.slice e), some s, some x => (szOf P e).map fun n => .copy n s x
        | _, _, _ => none
      | .builtin .append, [s, x], [t, u] => match P.underlying t, cOpd P t s, cOpd P u x with
        | some (.slice e), some s, some x => match P.info? e, zeroOf P e, P.underlying u with
          | some i, some z, some (.slice _) => if 0 < i.size then some (.appR e i.size i.bytes s x) else none
          | some i, some z, some (.int _) => if 0 < i.size && z.all AC.pure then some (.appM e i.size i.bytes z s x) else none
          | _, _, _ => none
        | _, _, _ => none
      | .builtin .clear, [x], [t] => match P.underlying t, cOpd P t x with
        | some (.slice e), some x => match zeroOf P e with
          | some z => if z.all AC.pure then (szOf P e).map fun n => .clr n z x else none
          | none => none
        | _, _ => none
      | .builtin .cap, [x], [t] => match P.underlying t, cOpd P t x with
        | some (.slice e), some x => some (.cap x)
        | _, _ => none
      | .value (.func f), [x, y], [t, u] => match P.underlying t, cOpd P t x, cOpd P u y with
        | some (.slice e), some x, some y => (szOf P e).map fun _ => .ovl f t x y
        | _, _, _ => none
      | _, _, _ => none
    | _ => none
    else none
  | none => none

def State.arrRows (σ : State) (id k : Nat) : Option (Nat × List (List AC)) :=
  match σ.heap[id]? with
  | some (.arr e k' xs) => if k = k' then some (e, xs) else none
  | _ => none
/-- How the state goes on behind such an operation. -/
def arrGo (P : Program) (σ : State) (dst : Option Nat) (K : State → Prop) : AOp → Prop
  | .copy esz s x => match σ.ev s, (σ.ev x).bind σ.srcRows with
    | some (.c (.sl id k off len _)), some (k', ys) => match σ.arrRows id k with
      | some (e, xs) => k = esz ∧ k' = esz ∧ off + min ys.length len ≤ xs.length ∧
          K (State.setD ⟨σ.env, σ.heap.set id (.arr e esz (spl xs off (ys.take (min ys.length len))))⟩ dst (.c (.int .i64 (min ys.length len : Nat))))
      | none => False
    | some (.c (.list _ _ [])), some (k', ys) => k' = esz ∧ K (σ.setD dst (.c (.int .i64 0)))
    | _, _ => False
  | .appR e esz bytes s x => match σ.ev s, (σ.ev x).bind σ.srcRows with
    | some (.c (.sl id k off len c)), some (k', ys) => match σ.arrRows id k with
      | some (e2, xs) => k = esz ∧ k' = esz ∧ (if len + ys.length ≤ c then off + len + ys.length ≤ xs.length ∧
            K (State.setD ⟨σ.env, σ.heap.set id (.arr e2 esz (spl xs (off + len) ys))⟩ dst (.c (.sl id esz off (len + ys.length) c)))
          else off + len ≤ xs.length ∧ (len + ys.length) * bytes ≤ 140737488355328 ∧ len + ys.length ≤ 9223372036854775807 ∧ K (σ.setD dst (.c (.list 2 esz ((xs.drop off).take len ++ ys)))))
      | none => False
    | _, _ => False
  | .appM e esz bytes z s x => match σ.ev s, σ.ev x with
    | some (.c (.sl id k off len c)), some (.c (.int _ m)) => match σ.arrRows id k with
      | some (e2, xs) => k = esz ∧ off + len ≤ xs.length ∧ 0 < m ∧ c < len + m.toNat ∧ (len + m.toNat) * bytes ≤ 140737488355328 ∧ len + m.toNat ≤ 9223372036854775807 ∧
          ∀ extra, K (State.setD ⟨σ.env, σ.heap ++ [.arr e esz ((xs.drop off).take len ++ List.replicate (m.toNat + extra) z)]⟩ dst (.c (.sl σ.heap.length esz 0 (len + m.toNat) (len + m.toNat + extra))))
      | none => False
    | _, _ => False
  | .clr esz z x => match σ.ev x with
    | some (.c (.sl id k off len _)) => match σ.arrRows id k with
      | some (e, xs) => k = esz ∧ off + len ≤ xs.length ∧ K (State.setD ⟨σ.env, σ.heap.set id (.arr e esz (spl xs off (List.replicate len z)))⟩ dst (.tup []))
      | none => False
    | some (.c (.list _ _ [])) => K (σ.setD dst (.tup []))
    | _ => False
  | .cap x => match σ.ev x with
    | some (.c (.sl _ _ _ _ c)) => K (σ.setD dst (.c (.int .i64 c)))
    | some (.c (.list 1 _ xs)) => K (σ.setD dst (.c (.int .i64 xs.length)))
    | _ => False
  | .ovl f t x y => OvlOk P f t ∧ match σ.ev x, σ.ev y with
    | some (.c (.list _ k1 _)), some (.c (.sl id k off len c)) => (match σ.heap[id]? with
        | some (.arr _ k2 _) => k1 = k2 ∧ 0 < k2
        | _ => False) ∧ K (σ.setD dst (.c (.bool false)))
    | _, _ => False

theorem spl_len {α : Type} (xs us : List α) (off : Nat) (h : off + us.length ≤ xs.length) : (spl xs off us).length = xs.length := by simp [spl]; omega
theorem spl_get {α : Type} (cs us : List α) (off j : Nat) (h : off + us.length ≤ cs.length) : (spl cs off us)[j]? = if off ≤ j ∧ j < off + us.length then us[j - off]? else cs[j]? := by
  unfold spl
  by_cases c1 : j < off
  · rw [if_neg (by omega), List.append_assoc, List.getElem?_append_left (by simp; omega), List.getElem?_take, if_pos c1]
  · by_cases c2 : j < off + us.length
    · rw [if_pos (by omega), List.getElem?_append_left (by simp; omega), List.getElem?_append_right (by simp; omega)]
      congr 1; simp; omega
    · rw [if_neg (by omega), List.getElem?_append_right (by simp; omega), List.getElem?_drop]
      congr 1; simp; omega

section
variable {P : Program} {E : Entry} {n : Nat} {σ σ' : State} {a : Act} {w : World} {g : Gh} {tk : List Nat} {v : AV}

/-- A source of which the first m elements are read. -/
structure SrcP (P : Program) (w : World) (size n m : Nat) (x : Value) (news : List Value) : Prop where
  len : ∀ w', (Builtin.lenOf x).run P w' = .ok n w'
  cells : ∀ w' : World, w'.heap = w.heap → (Builtin.firstCells size m x).run P w' = .ok news.toArray w'
  num : news.length = m * size
  one : ∀ u ∈ news, u.oneCell' = true
theorem SrcP.src {size n : Nat} {x : Value} {news : List Value} (h : SrcP P w size n n x news) : Src P w size n x news := ⟨h.len, h.cells, h.num, h.one⟩

theorem SrcP.row {L : Nat → Nat} {b o k m len c : Nat} {ys : List (List AC)} (f : Nat → Value) (hm : m ≤ ys.length) (hl : ys.length = len) (hyl : ∀ y ∈ ys, y.length = k) (hc : ∀ i, i < ys.length * k → w.cell? ⟨b, o + i, none⟩ = some (f i))
    (hr : ∀ i y, ys[i]? = some y → ∀ j a, y[j]? = some a → CRel w L a (f (i * k + j))) : ∃ news, SrcP P w k len m (.slice (some ⟨b, o, none⟩) len c) news ∧ (∀ y ∈ ys.take m, y.length = k) ∧ ∀ i y, (ys.take m)[i]? = some y → ∀ j a, y[j]? = some a → ∃ u, news[i * k + j]? = some u ∧ CRel w L a u := by
  have hmul : m * k ≤ ys.length * k := Nat.mul_le_mul_right _ hm
  refine ⟨(List.range (m * k)).map f, ⟨fun w' => rfl, fun w' hw => ?_, by simp, fun u hu => ?_⟩, fun y hy => hyl y (List.mem_of_mem_take hy), fun i y hy j a ha => ?_⟩
  · have hcell : ∀ a, w'.cell? a = w.cell? a := fun a => by simp [World.cell?, hw]
    exact run_firstCells_some (P := P) w' k m ⟨b, o, none⟩ len c ((List.range (m * k)).map f) (by simp) (fun j v hv => by
      rw [List.getElem?_map] at hv
      obtain ⟨q, hq, rfl⟩ := Option.map_eq_some_iff.1 hv
      have hj : j < m * k := by have := (List.getElem?_eq_some_iff.1 hq).1; simpa using this
      rw [List.getElem?_range hj] at hq
      obtain rfl := Option.some.inj hq
      rw [hcell, Addr.add_lit]; exact hc j (by omega))
  · obtain ⟨q, hq, rfl⟩ := List.mem_map.1 hu
    have hq' : q < ys.length * k := by have : q < m * k := by simpa using hq
                                       omega
    by_cases he : k = 0
    · subst he; simp at hq'
    · have hpos : 0 < k := by omega
      have hi : q / k < ys.length := by rw [Nat.div_lt_iff_lt_mul hpos]; exact hq'
      have hy : ys[q / k]? = some ys[q / k] := List.getElem?_eq_getElem hi
      have hl := hyl _ (List.getElem_mem hi)
      have hj : q % k < ys[q / k].length := by rw [hl]; exact Nat.mod_lt _ hpos
      have := hr _ _ hy (q % k) _ (List.getElem?_eq_getElem hj)
      rw [Nat.div_add_mod'] at this
      exact this.one.1
  · rw [List.getElem?_take] at hy
    split at hy
    · rename_i hi
      have hj : j < k := by rw [← hyl y (List.mem_of_getElem? hy)]; exact (List.getElem?_eq_some_iff.1 ha).1
      have hlt : i * k + j < m * k := by
        have : (i + 1) * k ≤ m * k := Nat.mul_le_mul_right _ hi
        rw [Nat.add_mul] at this; omega
      exact ⟨f (i * k + j), by simp [List.getElem?_range hlt], hr i y hy j a ha⟩
    · cases hy

theorem srcRel (h : St E n σ a w g) {u : Nat} {x : Operand} {x' : Opd} (hx : cOpd P u x = some x') {k : Nat} {ys : List (List AC)} (hs : (σ.ev x').bind σ.srcRows = some (k, ys)) {m : Nat} (hm : m ≤ ys.length) :
    ∃ news, SrcP P w k ys.length m (a.eval x) news ∧ (∀ y ∈ ys.take m, y.length = k) ∧ ∀ i y, (ys.take m)[i]? = some y → ∀ j a, y[j]? = some a → ∃ u, news[i * k + j]? = some u ∧ CRel w g.L a u := by
  obtain ⟨v, hv, hs⟩ := Option.bind_eq_some_iff.1 hs
  unfold State.srcRows at hs
  split at hs
  · rename_i lv k0 ys0
    obtain ⟨rfl, rfl⟩ : k0 = k ∧ ys0 = ys := by have := Option.some.inj hs; injection this with h1 h2; exact ⟨h1, h2⟩
    have hr := (ev_rel h hx hv 0 0).c_inv.list_inv
    generalize a.eval x = x0 at hr
    cases hr with
    | nil _ _ A c g1 g2 =>
      have hm0 : m = 0 := by simpa using hm
      subst hm0
      refine ⟨[], ⟨fun w' => rfl, fun w' hw => ?_, by simp, by simp⟩, by simp, by simp⟩
      cases A <;> simp [Builtin.firstCells, loadCells, loadCellsFrom]
    | list _ _ _ b o nn c vs g1 g2 gn g3 g4 g5 g6 g7 =>
      subst gn
      exact SrcP.row vs hm rfl g4 g6 g7
  · rename_i id k0 off len c
    split at hs
    · rename_i e k' xs hid
      split at hs
      · rename_i hb
        obtain ⟨rfl, hb⟩ := hb
        obtain ⟨rfl, rfl⟩ : k0 = k ∧ (xs.drop off).take len = ys := by have := Option.some.inj hs; injection this with h1 h2; exact ⟨h1, h2⟩
        have hr := (ev_rel h hx hv 0 0).c_inv
        generalize a.eval x = x0 at hr
        cases hr with
        | pure hc => cases hc
        | sl q1 q2 q3 =>
          have hrel := h.heap.rel id _ hid
          cases hrel with
          | arr r1 r2 r3 r4 r5 r6 r7 r8 r9 =>
            rename_i cur cap
            have hlen : ((xs.drop off).take len).length = len := by simp; omega
            rw [hlen] at hm ⊢
            refine SrcP.row (fun i => cur.getD (off * k0 + i) undef) (by rw [hlen]; exact hm) hlen (fun y hy => r6 y (List.mem_of_mem_drop (List.mem_of_mem_take hy))) (fun i hi => ?_) (fun i y hy j c' hc' => ?_)
            · have hi2 : off * k0 + i < cur.size := by
                rw [hlen] at hi
                have : (off + len) * k0 ≤ cap * k0 := Nat.mul_le_mul_right _ (by omega)
                rw [Nat.add_mul] at this
                rw [r2]; omega
              rw [cell_of_row _ _ _ _ _ _ r1]
              simp [Array.getD_eq_getD_getElem?, hi2]
            · rw [List.getElem?_take] at hy
              split at hy
              · rw [List.getElem?_drop] at hy
                have := r7 _ _ hy j c' hc'
                rw [← Nat.add_assoc, ← Nat.add_mul]; exact this
              · cases hy
      · cases hs
    · cases hs
  · cases hs

theorem St.arrW (h : St E n σ a w g) {id e k : Nat} {xs ys : List (List AC)} {p : Nat} {news : List Value} (hid : σ.heap[id]? = some (.arr e k xs)) (hp : p + ys.length ≤ xs.length) (hl : news.length = ys.length * k) (hyl : ∀ y ∈ ys, y.length = k)
    (hyr : ∀ i y, ys[i]? = some y → ∀ j a, y[j]? = some a → ∃ u, news[i * k + j]? = some u ∧ CRel w g.L a u) :
    ∃ cur, w.heap[g.β id]? = some (.cells cur e (0, 0)) ∧ p * k + news.length ≤ cur.size ∧
      St E n ⟨σ.env, σ.heap.set id (.arr e k (spl xs p ys))⟩ a (w.setRow (g.β id) (cur.toList.take (p * k) ++ news ++ cur.toList.drop (p * k + news.length)).toArray) (g.re some) := by
  have hH := h.heap.rel _ _ hid
  cases hH with
  | arr h2 h3 h3' h4 h5 h6 h7 h8 h9 =>
    rename_i cur cap
    have hfit : p * k + news.length ≤ cur.size := by
      rw [hl, h3, ← Nat.add_mul]; exact Nat.mul_le_mul_right _ (by omega)
    refine ⟨cur, h2, hfit, ?_⟩
    have hne : ∀ b p, g.ow b = some p → b ≠ g.β id := fun b p hp hb => by rw [hb, h9] at hp; cases hp
    refine h.write (k := .arr e k xs) (k' := .arr e k (spl xs p ys)) (env' := σ.env) (cs := (cur.toList.take (p * k) ++ news ++ cur.toList.drop (p * k + news.length)).toArray) hid rfl rfl h2 some (fun _ _ _ _ => rfl)
      (fun e' => by
        refine .arr (cap := cap) (setRow_heap w _ cur _ e _ h2) (by rw [← h3]; simp; omega) h3' (by rw [spl_len _ _ _ hp]; exact h4) h5 (fun z hz => ?_) (fun i z hz j c hj => ?_) h8 (by simp [Gh.re, h9])
        · obtain ⟨i, hi⟩ := List.getElem?_of_mem hz
          rw [spl_get _ _ _ _ hp] at hi
          split at hi
          · exact hyl z (List.mem_of_getElem? hi)
          · exact h6 z (List.mem_of_getElem? hi)
        · have hzk : z.length = k := by
            rw [spl_get _ _ _ _ hp] at hz
            split at hz
            · exact hyl z (List.mem_of_getElem? hz)
            · exact h6 z (List.mem_of_getElem? hz)
          have hjk : j < k := by rw [← hzk]; exact (List.getElem?_eq_some_iff.1 hj).1
          have hq := row_get cur news (p * k) (i * k + j) hfit
          rw [spl_get _ _ _ _ hp] at hz
          split at hz
          · rename_i hin
            obtain ⟨u, hu, hcu⟩ := hyr _ _ hz j c hj
            have hm1 : p * k ≤ i * k := Nat.mul_le_mul_right _ hin.1
            have hm2 : (i + 1) * k ≤ (p + ys.length) * k := Nat.mul_le_mul_right _ hin.2
            rw [Nat.add_mul, Nat.add_mul] at hm2
            have hin' : p * k ≤ i * k + j ∧ i * k + j < p * k + news.length := by rw [hl]; omega
            rw [if_pos hin'] at hq
            have he : ((cur.toList.take (p * k) ++ news ++ cur.toList.drop (p * k + news.length)).toArray).getD (i * k + j) undef = u := by
              simp only [Array.getD_eq_getD_getElem?, hq]
              have : i * k + j - p * k = (i - p) * k + j := by rw [Nat.sub_mul]; omega
              rw [this, hu]; rfl
            rw [he]; exact hcu.evo e'.evo
          · rename_i hin
            have hin' : ¬ (p * k ≤ i * k + j ∧ i * k + j < p * k + news.length) := by
              rw [hl]
              rintro ⟨c1, c2⟩
              apply hin
              constructor
              · rcases Nat.lt_or_ge i p with hlt | hge
                · have := Nat.mul_le_mul_right k (show i + 1 ≤ p by omega)
                  rw [Nat.add_mul] at this; omega
                · exact hge
              · rcases Nat.lt_or_ge i (p + ys.length) with hlt | hge
                · exact hlt
                · have := Nat.mul_le_mul_right k hge
                  rw [Nat.add_mul] at this; omega
            rw [if_neg hin'] at hq
            have he : ((cur.toList.take (p * k) ++ news ++ cur.toList.drop (p * k + news.length)).toArray).getD (i * k + j) undef = cur.getD (i * k + j) undef := by
              simp only [Array.getD_eq_getD_getElem?, hq]
            rw [he]; exact (h7 i z hz j c hj).evo e'.evo)
      (fun e' t v hv => by
        obtain ⟨q1, q2⟩ := h.env t v hv
        exact ⟨q1, q2.ext e' fun b i j hb hp => ⟨hne b _ hp, re_some hp rfl⟩⟩)
end
end Go.AI

set_option linter.unusedVariables false
set_option linter.unusedSimpArgs false
namespace Go.AI
open Go Go.RowKit Go.Lib

section
variable {P : Program} {E : Entry} {n : Nat} {σ σ' : State} {a : Act} {w : World} {g : Gh} {tk : List Nat} {v : AV} {K : State → Prop}
  {type : Nat} {pos : String} {after : Array Edge} {guard : Option (Nat × Bool)} {d : Nat}

theorem arrRows_some {id k e : Nat} {xs : List (List AC)} (h : σ.arrRows id k = some (e, xs)) : σ.heap[id]? = some (.arr e k xs) := by
  unfold State.arrRows at h
  split at h
  · rename_i e' k' xs' hid
    split at h
    · rename_i hk; subst hk
      obtain ⟨rfl, rfl⟩ : e' = e ∧ xs' = xs := by have := Option.some.inj h; injection this with h1 h2; exact ⟨h1, h2⟩
      exact hid
    · cases h
  · cases h
theorem setD_some (σ : State) (d : Nat) (v : AV) : σ.setD (some d) v = ⟨AI.put σ.env d v, σ.heap⟩ := rfl

theorem run_copy {dT sT ty elem k dLen dCap n m : Nat} {base : Option Addr} {x : Value} {news : List Value} (hu : P.underlying dT = some (.slice elem)) (hs : szOf P elem = some k) (hsrc : SrcP P w k n m x news) (hm : m = min n dLen) {w' : World}
    (hst : ∀ b, base = some b → (storeCells b news).run P w = .ok () w') (hno : base = none → w' = w) : (Builtin.copy_ #[dT, sT] ty #[.slice base dLen dCap, x]).run P w = .ok (goInt m) w' := by
  have hc := hsrc.cells w rfl
  have hm' : n.min dLen = m := hm.symm
  cases base with
  | none =>
    obtain rfl := hno rfl
    simp [Builtin.copy_, run_underlying hu, hsrc.len, run_sizeOf hs, hm', hc]
  | some b =>
    have := hst b rfl
    simp [Builtin.copy_, run_underlying hu, hsrc.len, run_sizeOf hs, hm', hc, this]

theorem copy_act (h : St E n σ a w g) (hd : d < n) {t u e k : Nat} {s x : Operand} {s' x' : Opd} (ht : P.underlying t = some (.slice e)) (hs : cOpd P t s = some s') (hx : cOpd P u x = some x') (hk : szOf P e = some k) (hgo : arrGo P σ (some d) K (.copy k s' x')) :
    ∃ σ', K σ' ∧ Did P E n a w ⟨some d, .call { callee := .builtin .copy, args := #[s, x], argTypes := #[t, u] }, type, pos, after, guard⟩ σ' := by
  have hrun : ∀ y w', (Builtin.copy_ #[t, u] type #[a.eval s, a.eval x]).run P w = .ok y w' → (execOp a.eval ⟨some d, .call { callee := .builtin .copy, args := #[s, x], argTypes := #[t, u] }, type, pos, after, guard⟩).run P w = .ok (.value y) w' := fun y w' hr => by
    simp [execOp, resolve, invoke, builtin, hr]
  simp only [arrGo] at hgo
  split at hgo
  · rename_i id k0 off len c k' ys hev hsx
    split at hgo
    · rename_i e2 xs hrows
      obtain ⟨rfl, rfl, hle, hK⟩ := hgo
      have hid := arrRows_some hrows
      have hr := (ev_rel h hs hev 0 0).c_inv
      generalize hs0 : a.eval s = s0 at hr
      cases hr with
      | pure hc => cases hc
      | sl q1 q2 q3 =>
        obtain ⟨news, hsrc, hyl, hyr⟩ := srcRel (P := P) h hx hsx (m := min ys.length len) (Nat.min_le_left _ _)
        have hlt : (ys.take (min ys.length len)).length = min ys.length len := by rw [List.length_take]; omega
        obtain ⟨cur, hb, hfit, hst⟩ := h.arrW (p := off) (ys := ys.take (min ys.length len)) (news := news) hid (by omega) (by rw [hlt]; exact hsrc.num) hyl hyr
        have hstore := run_storeCells_at P (g.β id) (off * k') e2 news 0 cur w hb (by simpa using hfit) hsrc.one
        simp only [Nat.add_zero] at hstore
        refine ⟨_, hK, goInt ((min ys.length len : Nat) : Int), _, _, .inl (hrun _ _ ?_), hst.put hd (.s (.c (.pure (.int _ _))))⟩
        rw [hs0]
        exact run_copy ht hk hsrc rfl (fun b hb' => by obtain rfl := Option.some.inj hb'; exact hstore) (fun h => by cases h)
    · exact hgo.elim
  · rename_i lv k0 k' ys hev hsx
    obtain ⟨rfl, hK⟩ := hgo
    have hr := (ev_rel h hs hev 0 0).c_inv.list_inv
    generalize hs0 : a.eval s = s0 at hr
    cases hr with
    | nil _ _ A c g1 g2 =>
      obtain ⟨news, hsrc, hyl, hyr⟩ := srcRel (P := P) h hx hsx (m := 0) (Nat.zero_le _)
      have hn0 : news = [] := List.eq_nil_of_length_eq_zero (by rw [hsrc.num]; simp)
      refine ⟨_, hK, goInt 0, w, g, .inl (hrun _ _ ?_), h.put hd (.s (.c (.pure (.int _ _))))⟩
      rw [hs0]
      exact run_copy ht hk hsrc (by simp) (fun b _ => by rw [hn0]; simp [storeCells]) (fun _ => rfl)
    | list _ _ _ b o nn c vs g1 g2 gn g3 g4 g5 g6 g7 =>
      obtain ⟨news, hsrc, hyl, hyr⟩ := srcRel (P := P) h hx hsx (m := 0) (Nat.zero_le _)
      have hn0 : news = [] := List.eq_nil_of_length_eq_zero (by rw [hsrc.num]; simp)
      refine ⟨_, hK, goInt 0, w, g, .inl (hrun _ _ ?_), h.put hd (.s (.c (.pure (.int _ _))))⟩
      rw [hs0]
      subst gn
      exact run_copy ht hk hsrc (by simp) (fun b _ => by rw [hn0]; simp [storeCells]) (fun _ => rfl)
  · exact hgo.elim

theorem run_appR_room {t u ty e : Nat} {i : TypeInfo} (ht : P.underlying t = some (.slice e)) (hu : ∃ e', P.underlying u = some (.slice e')) (hi : P.info? e = some i) {x : Value} {m : Nat} {news : List Value} (hs : Src P w i.size m x news)
    (b : Addr) (n c : Nat) (hroom : n + m ≤ c) {w' : World} (hst : (storeCells (b.add (n * i.size)) news).run P w = .ok () w') :
    (Builtin.append_ #[t, u] ty #[.slice (some b) n c, x]).run P w = .ok (.slice (some b) (n + m) c) w' := by
  have hc := hs.cells w rfl
  obtain ⟨e', hu⟩ := hu
  simp [Builtin.append_, run_underlying ht, run_underlying hu, sizeOf, typeInfo, hi, hs.len, hroom, hc, hst]

theorem appR_act (h : St E n σ a w g) (hd : d < n) {t u e : Nat} {i : TypeInfo} {z : List AC} {s x : Operand} {s' x' : Opd} (ht : P.underlying t = some (.slice e)) (hu : ∃ e', P.underlying u = some (.slice e')) (hs : cOpd P t s = some s') (hx : cOpd P u x = some x') (hi : P.info? e = some i) (hz : zeroOf P e = some z) (hpos : 0 < i.size)
    (hgo : arrGo P σ (some d) K (.appR e i.size i.bytes s' x')) : ∃ σ', K σ' ∧ Did P E n a w ⟨some d, .call { callee := .builtin .append, args := #[s, x], argTypes := #[t, u] }, type, pos, after, guard⟩ σ' := by
  have hrun : ∀ y w', (Builtin.append_ #[t, u] type #[a.eval s, a.eval x]).run P w = .ok y w' → (execOp a.eval ⟨some d, .call { callee := .builtin .append, args := #[s, x], argTypes := #[t, u] }, type, pos, after, guard⟩).run P w = .ok (.value y) w' := fun y w' hr => by
    simp [execOp, resolve, invoke, builtin, hr]
  obtain ⟨zv, i', hi', hiz, hisz, hzs, hzr, hzx⟩ := zeroOf_rel hz
  rw [hi] at hi'; obtain rfl := Option.some.inj hi'
  simp only [arrGo] at hgo
  split at hgo
  · rename_i id k0 off len c k' ys hev hsx
    split at hgo
    · rename_i e2 xs hrows
      obtain ⟨rfl, rfl, hgo⟩ := hgo
      have hid := arrRows_some hrows
      have hr := (ev_rel h hs hev 0 0).c_inv
      generalize hs0 : a.eval s = s0 at hr
      cases hr with
      | pure hc => cases hc
      | sl q1 q2 q3 =>
        obtain ⟨news, hsrc, hyl, hyr⟩ := srcRel (P := P) h hx hsx (m := ys.length) (Nat.le_refl _)
        rw [List.take_length] at hyl hyr
        split at hgo
        · rename_i hroom
          obtain ⟨hle, hK⟩ := hgo
          obtain ⟨cur, hb, hfit, hst⟩ := h.arrW (p := off + len) (ys := ys) (news := news) hid hle hsrc.num hyl hyr
          have hstore := run_storeCells_at P (g.β id) ((off + len) * i.size) e2 news 0 cur w hb (by simpa using hfit) hsrc.one
          simp only [Nat.add_zero] at hstore
          refine ⟨_, hK, .slice (some ⟨g.β id, off * i.size, none⟩) (len + ys.length) c, _, _, .inl (hrun _ _ ?_), hst.put hd (.s (.c ?_))⟩
          · rw [hs0]
            exact run_appR_room ht hu hi hsrc.src _ _ _ hroom (by rw [Addr.add_lit, ← Nat.add_mul]; exact hstore)
          · exact XRel.sl (w := w.setRow (g.β id) _) (g := g.re some) q1 q2 hroom
        · rename_i hroom
          obtain ⟨hle, hb, h63, hK⟩ := hgo
          obtain ⟨olds, osrc, oxl, oxr⟩ : ∃ olds, SrcP P w i.size len len (.slice (some ⟨g.β id, off * i.size, none⟩) len c) olds ∧ (∀ y ∈ (xs.drop off).take len, y.length = i.size) ∧ ∀ k y, ((xs.drop off).take len)[k]? = some y → ∀ j a, y[j]? = some a → ∃ u, olds[k * i.size + j]? = some u ∧ CRel w g.L a u := by
            have hsr : (σ.ev s').bind σ.srcRows = some (i.size, (xs.drop off).take len) := by
              rw [hev]; simp [State.srcRows, hid, hle]
            have hlen : ((xs.drop off).take len).length = len := by simp; omega
            obtain ⟨olds, q1, q2, q3⟩ := srcRel (P := P) h hs hsr (m := len) (by omega)
            rw [hs0, hlen] at q1
            rw [List.take_of_length_le (by omega)] at q2 q3
            exact ⟨olds, q1, q2, q3⟩
          have hlen : ((xs.drop off).take len).length = len := by simp; omega
          have hm63 : len + ys.length ≤ maxLen := by simp only [maxLen]; omega
          have hr1 := run_app_grow (ty := type) ht (.inl hu) hi hiz hsrc.src (some ⟨g.β id, off * i.size, none⟩) len c olds (fun w' hw => osrc.cells w' hw) (by omega) h63 hb
          obtain ⟨g2, h2⟩ := h.grown (e := e) (esz := i.size) (zs := (xs.drop off).take len ++ ys) (olds := olds) (news := news) (z := zv) (cap := grownCap w (len + ys.length) c e) (need := len + ys.length) (by simp; omega) (grownCap_ge _ _ _ _) (grownCap_le_maxLen _ _ _ _ hm63) (by rw [hzs, hisz])
            (by rw [List.length_append, osrc.num, hsrc.num, Nat.add_mul]) (fun q hq => (List.mem_append.1 hq).elim (oxl q) (hyl q)) (rows_append (by rw [hlen]; exact osrc.num) oxl oxr hyr) hd
          exact ⟨_, hK, _, _, g2, .inl (hrun _ _ (by rw [hs0]; exact hr1)), h2⟩
    · exact hgo.elim
  · exact hgo.elim
end
end Go.AI

set_option linter.unusedVariables false
set_option linter.unusedSimpArgs false
namespace Go.AI
open Go Go.RowKit Go.Lib

section
variable {P : Program} {E : Entry} {n : Nat} {σ σ' : State} {a : Act} {w : World} {g : Gh} {tk : List Nat} {v : AV} {K : State → Prop}
  {type : Nat} {pos : String} {after : Array Edge} {guard : Option (Nat × Bool)} {d : Nat}

theorem zrow_get {z : List AC} {zv : Value} (hz : zv.cells.size = z.length) (hx : ∀ (w : World) (g : Gh) (j : Nat) (a : AC), z[j]? = some a → CRel w g.L a (zv.cells.getD j undef)) (m : Nat) (w : World) (g : Gh) : ∀ i y, (List.replicate m z)[i]? = some y → ∀ j a, y[j]? = some a → ∃ u, (Builtin.zeroCells zv.cells m).toList[i * z.length + j]? = some u ∧ CRel w g.L a u := by
  intro i y hy j a ha
  rw [List.getElem?_replicate] at hy
  split at hy
  · rename_i hi
    obtain rfl := Option.some.inj hy
    have hj : j < zv.cells.size := by rw [hz]; exact (List.getElem?_eq_some_iff.1 ha).1
    refine ⟨_, ?_, hx w g j a ha⟩
    have := zeroCells_get zv.cells m i j hi hj
    rw [hz] at this
    rw [Array.getElem?_toList]; exact this
  · cases hy
theorem zeroCells_one {zv : Value} (h1 : ∀ y ∈ zv.cells.toList, y.oneCell' = true) (m : Nat) : ∀ y ∈ (Builtin.zeroCells zv.cells m).toList, y.oneCell' = true := by
  intro y hy
  simp only [Builtin.zeroCells, Array.toList_map, List.mem_map] at hy
  obtain ⟨i, hi, rfl⟩ := hy
  have hi' : i < m * zv.cells.size := by simpa using hi
  have hpos : 0 < zv.cells.size := by
    rcases Nat.eq_zero_or_pos zv.cells.size with h | h
    · rw [h] at hi'; simp at hi'
    · exact h
  have hlt : i % zv.cells.size < zv.cells.size := Nat.mod_lt _ hpos
  rw [getElem!_pos zv.cells _ hlt]
  exact h1 _ (by simp)
theorem zrow_one {z : List AC} {zv : Value} (hz : zv.cells.size = z.length) (hx : ∀ (w : World) (g : Gh) (j : Nat) (a : AC), z[j]? = some a → CRel w g.L a (zv.cells.getD j undef)) (w : World) (g : Gh) : ∀ y ∈ zv.cells.toList, y.oneCell' = true := by
  intro y hy
  obtain ⟨j, hj⟩ := List.getElem?_of_mem hy
  have hlt : j < zv.cells.size := by have := (List.getElem?_eq_some_iff.1 hj).1; simpa using this
  have := (hx w g j z[j] (List.getElem?_eq_getElem (by omega))).one.1
  have he : zv.cells.getD j undef = y := by
    have : zv.cells[j]? = some y := by simpa using hj
    simp [Array.getD_eq_getD_getElem?, this]
  rwa [he] at this
theorem size_zeroCells' (zc : Array Value) (m : Nat) : (Builtin.zeroCells zc m).toList.length = m * zc.size := by simp [Builtin.zeroCells]

theorem appM_act (h : St E n σ a w g) (hd : d < n) {t u e : Nat} {kn : IntKind} {i : TypeInfo} {z : List AC} {s x : Operand} {s' x' : Opd} (ht : P.underlying t = some (.slice e)) (hu : P.underlying u = some (.int kn)) (hs : cOpd P t s = some s') (hx : cOpd P u x = some x') (hi : P.info? e = some i) (hz : zeroOf P e = some z) (hpos : 0 < i.size)
    (hpure : z.all AC.pure = true) (hgo : arrGo P σ (some d) K (.appM e i.size i.bytes z s' x')) : ∃ σ', K σ' ∧ Did P E n a w ⟨some d, .call { callee := .builtin .append, args := #[s, x], argTypes := #[t, u] }, type, pos, after, guard⟩ σ' := by
  have hrun : ∀ y w', (Builtin.append_ #[t, u] type #[a.eval s, a.eval x]).run P w = .ok y w' → (execOp a.eval ⟨some d, .call { callee := .builtin .append, args := #[s, x], argTypes := #[t, u] }, type, pos, after, guard⟩).run P w = .ok (.value y) w' := fun y w' hr => by
    simp [execOp, resolve, invoke, builtin, hr]
  obtain ⟨zv, i', hi', hiz, hisz, hzs, hzr, hzx⟩ := zeroOf_rel hz
  rw [hi] at hi'; obtain rfl := Option.some.inj hi'
  have hzrow : ∀ (w : World) (g : Gh) (j : Nat) (a : AC), z[j]? = some a → CRel w g.L a (zv.cells.getD j undef) :=
    fun w g j a ha => ((hzx w g (0, 0, 0, 0) j a ha).1).toC (List.all_eq_true.1 hpure a (List.mem_of_getElem? ha))
  simp only [arrGo] at hgo
  split at hgo
  · rename_i id k0 off len c kq m hev hxv
    split at hgo
    · rename_i e2 xs hrows
      obtain ⟨rfl, hle, hm0, hc, hb, h63, hK⟩ := hgo
      have hid := arrRows_some hrows
      have hr := (ev_rel h hs hev 0 0).c_inv
      have hxe := (ev_rel h hx hxv 0 0).c_inv
      have hxe' : a.eval x = .int kq m := by
        generalize a.eval x = x0 at hxe
        cases hxe with
        | pure hc => cases hc; rfl
      generalize hs0 : a.eval s = s0 at hr
      cases hr with
      | pure hc => cases hc
      | sl q1 q2 q3 =>
        obtain ⟨olds, osrc, oxl, oxr⟩ : ∃ olds, SrcP P w i.size len len (.slice (some ⟨g.β id, off * i.size, none⟩) len c) olds ∧ (∀ y ∈ (xs.drop off).take len, y.length = i.size) ∧ ∀ k y, ((xs.drop off).take len)[k]? = some y → ∀ j a, y[j]? = some a → ∃ u, olds[k * i.size + j]? = some u ∧ CRel w g.L a u := by
          have hsr : (σ.ev s').bind σ.srcRows = some (i.size, (xs.drop off).take len) := by
            rw [hev]; simp [State.srcRows, hid, hle]
          have hlen : ((xs.drop off).take len).length = len := by simp; omega
          obtain ⟨olds, q1, q2, q3⟩ := srcRel (P := P) h hs hsr (m := len) (by omega)
          rw [hs0, hlen] at q1
          rw [List.take_of_length_le (by omega)] at q2 q3
          exact ⟨olds, q1, q2, q3⟩
        have hlen : ((xs.drop off).take len).length = len := by simp; omega
        obtain ⟨k, rfl⟩ : ∃ k : Nat, m = (k : Int) := ⟨m.toNat, by omega⟩
        simp only [Int.toNat_natCast] at hc hb h63 hK
        have hk0 : 0 < k := by omega
        have hm63 : len + k ≤ maxLen := by simp only [maxLen]; omega
        have hbk : k * i.bytes ≤ 281474976710656 := by
          have : k * i.bytes ≤ (len + k) * i.bytes := Nat.mul_le_mul_right _ (by omega)
          omega
        have hr1 := run_append_grow_zeros (P := P) w t u type e i zv kq kn ht hu hi hiz (some ⟨g.β id, off * i.size, none⟩) len c olds (osrc.cells w.drew rfl) k hk0 hpos hc (by omega) hbk (by have := growslice_fits hc hb; omega)
        have hzl : zv.cells.size = z.length := hzs
        have hge := grownCap_ge w (len + k) c e
        obtain ⟨g2, h2⟩ := h.grownA (e := e) (esz := i.size) (zs := (xs.drop off).take len ++ List.replicate k z) (olds := olds) (news := (Builtin.zeroCells zv.cells k).toList) (z := zv) (zr := z) (cap := grownCap w (len + k) c e) (need := len + k) (by simp; omega) hge (grownCap_le_maxLen _ _ _ _ hm63) (by rw [hzs, hisz])
          (by rw [List.length_append, osrc.num, size_zeroCells', hzs, ← hisz, Nat.add_mul]) (fun q hq => (List.mem_append.1 hq).elim (oxl q) (fun hq => by rw [(List.mem_replicate.1 hq).2, hisz])) (rows_append (by rw [hlen]; exact osrc.num) oxl oxr (by rw [hisz]; exact zrow_get hzl hzrow k w g)) ⟨hisz.symm, fun w g j a ha => hzrow w g j a ha⟩ hd
        refine ⟨_, hK (grownCap w (len + k) c e - (len + k)), _, _, g2, .inl (hrun _ _ (by rw [hs0, hxe']; exact hr1)), ?_⟩
        rw [show len + k + (grownCap w (len + k) c e - (len + k)) = grownCap w (len + k) c e by omega]
        have he : (xs.drop off).take len ++ List.replicate (k + (grownCap w (len + k) c e - (len + k))) z = (xs.drop off).take len ++ List.replicate k z ++ List.replicate (grownCap w (len + k) c e - (len + k)) z := by
          rw [List.append_assoc, List.replicate_append_replicate]
        rw [he]
        simpa [setD_some] using h2
    · exact hgo.elim
  · exact hgo.elim

theorem spl_nil {α : Type} (xs : List α) (off : Nat) : spl xs off [] = xs := by simp [spl]
theorem set_self {α : Type} {l : List α} {i : Nat} {x : α} (h : l[i]? = some x) : l.set i x = l := by
  apply List.ext_getElem?
  intro j
  by_cases hij : i = j
  · subst hij
    rw [List.getElem?_set_self (List.getElem?_eq_some_iff.1 h).1, h]
  · rw [List.getElem?_set_ne hij]

theorem clr_act (h : St E n σ a w g) (hd : d < n) {t e k : Nat} {z : List AC} {x : Operand} {x' : Opd} (ht : P.underlying t = some (.slice e)) (hx : cOpd P t x = some x') (hz : zeroOf P e = some z) (hk : szOf P e = some k) (hpure : z.all AC.pure = true)
    (hgo : arrGo P σ (some d) K (.clr k z x')) : ∃ σ', K σ' ∧ Did P E n a w ⟨some d, .call { callee := .builtin .clear, args := #[x], argTypes := #[t] }, type, pos, after, guard⟩ σ' := by
  have hrun : ∀ y w', (Builtin.clear_ #[t] type #[a.eval x]).run P w = .ok y w' → (execOp a.eval ⟨some d, .call { callee := .builtin .clear, args := #[x], argTypes := #[t] }, type, pos, after, guard⟩).run P w = .ok (.value y) w' := fun y w' hr => by
    simp [execOp, resolve, invoke, builtin, hr]
  obtain ⟨zv, i, hi, hiz, hisz, hzs, hzr, hzx⟩ := zeroOf_rel hz
  have hzrow : ∀ (w : World) (g : Gh) (j : Nat) (a : AC), z[j]? = some a → CRel w g.L a (zv.cells.getD j undef) :=
    fun w g j a ha => ((hzx w g (0, 0, 0, 0) j a ha).1).toC (List.all_eq_true.1 hpure a (List.mem_of_getElem? ha))
  have hkz : k = z.length := by
    have : szOf P e = some i.size := by simp [szOf, hi]
    rw [hk] at this; injection this with this; omega
  simp only [arrGo] at hgo
  split at hgo
  · rename_i id k0 off len c hev
    split at hgo
    · rename_i e2 xs hrows
      obtain ⟨rfl, hle, hK⟩ := hgo
      have hid := arrRows_some hrows
      have hr := (ev_rel h hx hev 0 0).c_inv
      generalize hs0 : a.eval x = s0 at hr
      cases hr with
      | pure hc => cases hc
      | sl q1 q2 q3 =>
        rcases Nat.eq_zero_or_pos len with h0 | h0
        · subst h0
          simp only [List.replicate_zero, spl_nil, set_self hid] at hK
          refine ⟨_, hK, .tuple #[], w, g, .inl (hrun _ _ ?_), h.put hd (VRel.tup rfl fun i a h => by cases h)⟩
          rw [hs0]
          simp [Builtin.clear_, run_underlying ht]
        · obtain ⟨cur, hb, hfit, hst⟩ := h.arrW (p := off) (ys := List.replicate len z) (news := (Builtin.zeroCells zv.cells len).toList) hid (by simpa using hle) (by rw [size_zeroCells', hzs, List.length_replicate, hkz]) (fun y hy => by rw [(List.mem_replicate.1 hy).2, hkz]) (by rw [hkz]; exact zrow_get hzs hzrow len w g)
          have hstore := run_storeCells_at P (g.β id) (off * k0) e2 (Builtin.zeroCells zv.cells len).toList 0 cur w hb (by simpa using hfit) (zeroCells_one (zrow_one hzs hzrow w g) len)
          simp only [Nat.add_zero] at hstore
          refine ⟨_, hK, .tuple #[], _, _, .inl (hrun _ _ ?_), hst.put hd (VRel.tup rfl fun i a h => by cases h)⟩
          rw [hs0]
          obtain ⟨len', rfl⟩ : ∃ m, len = m + 1 := ⟨len - 1, by omega⟩
          simp [Builtin.clear_, run_underlying ht, hzr, hstore]
    · exact hgo.elim
  · rename_i lv k0 hev
    have hr := (ev_rel h hx hev 0 0).c_inv.list_inv
    generalize hs0 : a.eval x = s0 at hr
    have key : ∃ A c, s0 = .slice A 0 c := by
      cases hr with
      | nil _ _ A c g1 g2 => exact ⟨A, c, rfl⟩
      | list _ _ _ b o nn c vs g1 g2 gn g3 g4 g5 g6 g7 => subst gn; exact ⟨_, c, rfl⟩
    obtain ⟨A, c, rfl⟩ := key
    refine ⟨_, hgo, .tuple #[], w, g, .inl (hrun _ _ ?_), h.put hd (VRel.tup rfl fun i a h => by cases h)⟩
    rw [hs0]
    cases A <;> simp [Builtin.clear_, run_underlying ht]
  · exact hgo.elim

theorem cap_act (h : St E n σ a w g) (hd : d < n) {t e : Nat} {x : Operand} {x' : Opd} (ht : P.underlying t = some (.slice e)) (hx : cOpd P t x = some x')
    (hgo : arrGo P σ (some d) K (.cap x')) : ∃ σ', K σ' ∧ Did P E n a w ⟨some d, .call { callee := .builtin .cap, args := #[x], argTypes := #[t] }, type, pos, after, guard⟩ σ' := by
  have hrun : ∀ y w', (Builtin.cap_ #[t] type #[a.eval x]).run P w = .ok y w' → (execOp a.eval ⟨some d, .call { callee := .builtin .cap, args := #[x], argTypes := #[t] }, type, pos, after, guard⟩).run P w = .ok (.value y) w' := fun y w' hr => by
    simp [execOp, resolve, invoke, builtin, hr]
  simp only [arrGo] at hgo
  split at hgo
  · rename_i id k0 off len c hev
    have hr := (ev_rel h hx hev 0 0).c_inv
    generalize hs0 : a.eval x = s0 at hr
    cases hr with
    | pure hc => cases hc
    | sl q1 q2 q3 =>
      refine ⟨_, hgo, goInt c, w, g, .inl (hrun _ _ ?_), h.put hd (.s (.c (.pure (.int _ _))))⟩
      rw [hs0]
      simp [Builtin.cap_, run_underlying ht]
  · rename_i k0 xs hev
    have hr := (ev_rel h hx hev 0 0).c_inv.toC rfl
    generalize hs0 : a.eval x = s0 at hr
    have key : ∃ A, s0 = .slice A xs.length xs.length := by
      cases hr with
      | nil _ _ A c g1 g2 => exact ⟨A, by rw [g2 rfl]; rfl⟩
      | list _ _ _ b o nn c vs g1 g2 gn g3 g4 g5 g6 g7 => exact ⟨_, by rw [g2 rfl, gn]⟩
    obtain ⟨A, rfl⟩ := key
    refine ⟨_, hgo, goInt xs.length, w, g, .inl (hrun _ _ ?_), h.put hd (.s (.c (.pure (.int _ _))))⟩
    rw [hs0]
    simp [Builtin.cap_, run_underlying ht]
  · exact hgo.elim
theorem run_ovl {tS tR e k : Nat} (ht : P.underlying tS = some (.slice e)) (hz : szOf P e = some k) (A : Option Addr) (b : Addr) (la ca lb cb : Nat) {cur : Array Value} {T : Nat} (hb : w.heap[b.block]? = some (.cells cur T (0, 0)))
    (hA : ∀ a, A = some a → la ≠ 0 → lb ≠ 0 → k ≠ 0 → a.block ≠ b.block ∧ cur.size ≠ 0 ∧ ∃ c T' fr, c.size ≠ 0 ∧ w.heap[a.block]? = some (.cells c T' fr)) :
    (Extern.SlicesOverlaps.overlaps #[tS, tS] #[tR] #[.slice A la ca, .slice (some b) lb cb]).run P w = .ok (.bool false) w := by
  have hz' : ∀ w, (Go.sizeOf e).run P w = .ok k w := fun w => run_sizeOf hz w
  change Sem.run P (α := Value) (do
    let some t := (#[tS, tS] : Array TypeId)[0]? | stuck "slices.overlaps: no parameter types"
    let .slice elem ← underlying t | stuck "slices.overlaps: slice type expected"
    let size ← sizeOf elem
    match A, (some b : Option Addr) with
    | some a, some b =>
      if la = 0 ∨ lb = 0 ∨ size = 0 then pure (Value.bool false)
      else if a.block != b.block && (← frozen a) && (← frozen b) then unsupported .addressObserved
      else do
        if a.block != b.block then do
          noView a; noView b
          if ← mayBeOne a b then return Value.bool ((← choose (.extern "sameAddr.stringBytes" 2)) == 1)
        pure (Value.bool (a.block == b.block && a.off < b.off + lb * size && b.off < a.off + la * size))
    | _, _ => pure (Value.bool false)) w = _
  cases A with
  | none => simp [run_underlying ht, hz']
  | some a =>
    by_cases h0 : la = 0 ∨ lb = 0 ∨ k = 0
    · simp [run_underlying ht, hz', h0]
    · obtain ⟨hne, hk, c, T', fr, hck, ha⟩ := hA a rfl (by omega) (by omega) (by omega)
      have hnb : (a.block != b.block) = true := by simpa using hne
      have hnb' : (a.block == b.block) = false := by simpa using hne
      have hsa : w.shape? a.block = some (T', c.size) := by simp [World.shape?, ha]
      have hsb : w.shape? b.block = some (T, cur.size) := by simp [World.shape?, hb]
      have hfb : ∀ o, w.frozen? { block := b.block, off := o } = false := fun o => by simp [World.frozen?, hb]
      have hfb' : w.frozen? b = false := by simp [World.frozen?, hb]
      obtain ⟨m, hs⟩ : ∃ m, cur.size = m + 1 := ⟨cur.size - 1, by omega⟩
      obtain ⟨m', hs'⟩ : ∃ m, c.size = m + 1 := ⟨c.size - 1, by omega⟩
      · rw [hs] at hsb
        rw [hs'] at hsa
        cases hfa : w.frozen? a <;> cases hfe : w.frozen? { block := a.block, off := m' + 1 } <;>
          simp [run_underlying ht, hz', h0, hnb, hnb', frozen, noView, viewAt, mayBeOne, stringish, shape, Sem.run, hsa, hsb, hfa, hfe, hfb, hfb']

theorem ovl_act (h : St E n σ a w g) (hd : d < n) {t e f k : Nat} {x y : Operand} {x' y' : Opd} (ht : P.underlying t = some (.slice e)) (hk : szOf P e = some k) (hx : cOpd P t x = some x') {u : Nat} (hy : cOpd P u y = some y')
    (hgo : arrGo P σ (some d) K (.ovl f t x' y')) : ∃ σ', K σ' ∧ Did P E n a w ⟨some d, .call { callee := .value (.func f), args := #[x, y], argTypes := #[t, u] }, type, pos, after, guard⟩ σ' := by
  simp only [arrGo] at hgo
  obtain ⟨⟨r, hov⟩, hgo⟩ := hgo
  split at hgo
  · rename_i lv ks ys id k0 off len c hex hey
    obtain ⟨hblk, hK⟩ := hgo
    split at hblk
    · rename_i e2 k2 xs hid
      obtain ⟨hk01, hblk⟩ := hblk
      have hrx := (ev_rel h hx hex 0 0).c_inv.list_inv
      have hry := (ev_rel h hy hey 0 0).c_inv
      generalize hx0 : a.eval x = x0 at hrx
      generalize hy0 : a.eval y = y0 at hry
      have key : (Extern.SlicesOverlaps.overlaps #[t, t] #[r] #[x0, y0]).run P w = .ok (.bool false) w := by
        cases hry with
        | pure hc => cases hc
        | sl q1 q2 q3 =>
          have hrel := h.heap.rel id _ hid
          cases hrel with
          | arr r1 r2 r3 r4 r5 r6 r7 r8 r9 =>
            rename_i cur cap
            cases hrx with
            | nil _ _ A c1 g1 g2 => exact run_ovl ht hk _ _ _ _ _ _ r1 (fun a _ h0 => absurd rfl h0)
            | list _ _ _ b o nn c1 vs g1 g2 gn g3 g4 g5 g6 g7 =>
              refine run_ovl ht hk _ _ _ _ _ _ r1 (fun a ha h0 h1 h2 => ?_)
              obtain rfl := Option.some.inj ha
              subst gn
              have hpos : 0 < ys.length * ks := Nat.mul_pos (by omega) (by omega)
              have hlt : 0 < len * k2 := Nat.mul_pos (by omega) (by omega)
              refine ⟨?_, ?_, ?_⟩
              · intro he
                simp only at he
                rw [he, r8] at g5
                omega
              · rw [r2]
                have : len * k2 ≤ cap * k2 := Nat.mul_le_mul_right _ (by omega)
                omega
              · have hc0 := g6 0 hpos
                unfold World.cell? at hc0
                split at hc0
                · rename_i cc T fr hh
                  refine ⟨cc, T, fr, ?_, hh⟩
                  simp only [Option.isSome_none, Bool.false_eq_true, if_false] at hc0
                  have := (Array.getElem?_eq_some_iff.1 hc0).1
                  omega
                · cases hc0
      refine ⟨_, hK, .bool false, w, g, .inl ?_, h.put hd (.s (.c (.pure (.bool _))))⟩
      have hev : a.eval (.func f) = .func (.func f) #[] #[] := rfl
      simp [execOp, resolve, hev, Deferred.ofValue, invoke, hov, hx0, hy0, key]
    · exact hblk.elim
  · exact hgo.elim

theorem arr_act (h : St E n σ a w g) {o : Oper} (hd : ∀ d, o.dst = some d → d < n) {x : AOp} (hc : arrOp P tk o = some x) (hgo : arrGo P σ o.dst K x) : ∃ σ', K σ' ∧ Did P E n a w o σ' := by
  obtain ⟨dst, op, type, pos, after, guard⟩ := o
  unfold arrOp at hc
  split at hc
  · rename_i d hdst
    simp only at hdst; subst hdst
    have hdn : d < n := hd d rfl
    split at hc
    · split at hc
      · rename_i c hop
        simp only at hop; subst hop
        obtain ⟨callee, args, argTypes⟩ := c
        split at hc
        · rename_i s x t u h1 h2 h3
          simp only at h1 h2 h3
          have h2' : args = #[s, x] := by simpa using congrArg List.toArray h2
          have h3' : argTypes = #[t, u] := by simpa using congrArg List.toArray h3
          subst h1; subst h2'; subst h3'
          split at hc
          · rename_i e s' x' ht hs hx
            obtain ⟨k, hk, rfl⟩ := Option.map_eq_some_iff.1 hc
            exact copy_act h hdn ht hs hx hk hgo
          · cases hc
        · rename_i s x t u h1 h2 h3
          simp only at h1 h2 h3
          have h2' : args = #[s, x] := by simpa using congrArg List.toArray h2
          have h3' : argTypes = #[t, u] := by simpa using congrArg List.toArray h3
          subst h1; subst h2'; subst h3'
          split at hc
          · rename_i e s' x' ht hs hx
            split at hc
            · rename_i i z e' hi hz hu
              split at hc
              · rename_i hpos
                obtain rfl := Option.some.inj hc
                exact appR_act h hdn ht ⟨_, hu⟩ hs hx hi hz hpos hgo
              · cases hc
            · rename_i i z kn hi hz hu
              split at hc
              · rename_i hpos
                simp only [Bool.and_eq_true, decide_eq_true_eq] at hpos
                obtain rfl := Option.some.inj hc
                exact appM_act h hdn ht hu hs hx hi hz hpos.1 hpos.2 hgo
              · cases hc
            · cases hc
          · cases hc
        · rename_i x t h1 h2 h3
          simp only at h1 h2 h3
          have h2' : args = #[x] := by simpa using congrArg List.toArray h2
          have h3' : argTypes = #[t] := by simpa using congrArg List.toArray h3
          subst h1; subst h2'; subst h3'
          split at hc
          · rename_i e x' ht hx
            split at hc
            · rename_i z hz
              split at hc
              · rename_i hp
                obtain ⟨k, hk, rfl⟩ := Option.map_eq_some_iff.1 hc
                exact clr_act h hdn ht hx hz hk hp hgo
              · cases hc
            · cases hc
          · cases hc
        · rename_i x t h1 h2 h3
          simp only at h1 h2 h3
          have h2' : args = #[x] := by simpa using congrArg List.toArray h2
          have h3' : argTypes = #[t] := by simpa using congrArg List.toArray h3
          subst h1; subst h2'; subst h3'
          split at hc
          · rename_i e x' ht hx
            obtain rfl := Option.some.inj hc
            exact cap_act h hdn ht hx hgo
          · cases hc
        · rename_i f x y t u h1 h2 h3
          simp only at h1 h2 h3
          have h2' : args = #[x, y] := by simpa using congrArg List.toArray h2
          have h3' : argTypes = #[t, u] := by simpa using congrArg List.toArray h3
          subst h1; subst h2'; subst h3'
          split at hc
          · rename_i e x' y' ht hx hy
            obtain ⟨k, hk, rfl⟩ := Option.map_eq_some_iff.1 hc
            exact ovl_act h hdn ht hk hx hy hgo
          · cases hc
        · cases hc
      · cases hc
    · cases hc
  · cases hc
end
end Go.AI

set_option linter.unusedVariables false
set_option linter.unusedSimpArgs false
namespace Go.AI
open Go Go.RowKit Go.Lib

/-- Slices that are written no more: from here on they are lists. -/
inductive Ghost where
  | slot (s : Nat)
  | cell (s off : Nat)
def State.ghost (σ : State) : Ghost → Option State
  | .slot s => match look σ.env s with
    | some (.c (.sl id k off len _)) => match σ.arrRows id k with
      | some (_, xs) => if off + len ≤ xs.length then some ⟨put σ.env s (.c (.list 0 k ((xs.drop off).take len))), σ.heap.set id .dead⟩ else none
      | none => none
    | some (.c (.list _ _ _)) => some σ
    | _ => none
  | .cell s o => match look σ.env s with
    | some (.c (.ptr (some (i0, o0)))) => match σ.heap[i0]? with
      | some (.cells cs) => match cs[o0 + o]? with
        | some (.sl id k off len _) => match σ.arrRows id k with
          | some (_, xs) => if off + len ≤ xs.length then some ⟨σ.env, (σ.heap.set id .dead).set i0 (.cells (cs.set (o0 + o) (.list 0 k ((xs.drop off).take len))))⟩ else none
          | none => none
        | some (.list _ _ _) => some σ
        | _ => none
      | _ => none
    | _ => none
def State.ghosts (σ : State) : List Ghost → Option State
  | [] => some σ
  | x :: l => match σ.ghost x with
    | some σ' => σ'.ghosts l
    | none => none

section
variable {P : Program} {E : Entry} {n : Nat} {σ σ' : State} {a : Act} {w : World} {g : Gh} {tk : List Nat} {v : AV}

theorem St.env' (h : St E n σ a w g) {s : Nat} (hs : s < n) {v : AV} (hv : VRel w g 0 s v (a.tmps.getD s undef)) : St E n ⟨AI.put σ.env s v, σ.heap⟩ a w g := by
  refine ⟨h.defers, h.size, fun t u hu => ?_, h.heap, h.baseH, h.baseO, h.evo⟩
  rw [look_put] at hu
  split at hu
  · rename_i e; subst e
    obtain rfl := Option.some.inj hu
    exact ⟨hs, hv⟩
  · exact h.env t u hu
theorem St.setBlk (h : St E n σ a w g) {id : Nat} {k k' : Blk} (hk : σ.heap[id]? = some k) (hl : k'.live = true → k.live = true) (hr : HRel w g id k') : St E n ⟨σ.env, σ.heap.set id k'⟩ a w g := by
  have hlt : id < σ.heap.length := (List.getElem?_eq_some_iff.1 hk).1
  have gm : ∀ id' q, (σ.heap.set id k')[id']? = some q → (id' ≠ id ∧ σ.heap[id']? = some q) ∨ (id' = id ∧ q = k') := fun id' q hq => by
    by_cases he : id = id'
    · subst he
      rw [List.getElem?_set_self hlt] at hq
      exact .inr ⟨rfl, (Option.some.inj hq).symm⟩
    · rw [List.getElem?_set_ne he] at hq
      exact .inl ⟨fun h => he h.symm, hq⟩
  have old : ∀ id' (q : Blk), (σ.heap.set id k')[id']? = some q → q.live = true → ∃ q' : Blk, σ.heap[id']? = some q' ∧ q'.live = true := fun id' q hq hlv => by
    rcases gm id' q hq with ⟨_, h⟩ | ⟨rfl, rfl⟩
    · exact ⟨q, h, hlv⟩
    · exact ⟨_, hk, hl hlv⟩
  refine ⟨h.defers, h.size, h.env, ⟨by simp [h.heap.len], fun id' q hq => ?_, fun id1 id2 q1 q2 g1 g2 g3 g4 g5 => ?_, h.heap.lim⟩, fun id' q hq hlv => ?_, h.baseO, h.evo⟩
  · rcases gm id' q hq with ⟨_, hq⟩ | ⟨rfl, rfl⟩
    · exact h.heap.rel id' q hq
    · exact hr
  · obtain ⟨q1', k1, k2⟩ := old id1 q1 g1 g3
    obtain ⟨q2', k3, k4⟩ := old id2 q2 g2 g4
    exact h.heap.inj id1 id2 q1' q2' k1 k3 k2 k4 g5
  · obtain ⟨q', k1, k2⟩ := old id' q hq hlv
    exact h.baseH id' q' k1 k2

/-- A slice of a block that is frozen now. -/
theorem frozen_rel (h : St E n σ a w g) {id k off len c e : Nat} {xs : List (List AC)} (hid : σ.heap[id]? = some (.arr e k xs)) (hle : off + len ≤ xs.length) {p q : Place} {x : Value} (hr : XRel w g p (.sl id k off len c) x) : XRel w (g.setL (g.β id) (xs.length * k)) q (.list 0 k ((xs.drop off).take len)) x := by
  cases hr with
  | pure hc => cases hc
  | sl q1 q2 q3 =>
    have hrel := h.heap.rel id _ hid
    cases hrel with
    | arr r1 r2 r3 r4 r5 r6 r7 r8 r9 =>
      rename_i cur cap
      have hlen : ((xs.drop off).take len).length = len := by simp; omega
      have hmul : (off + len) * k ≤ xs.length * k := Nat.mul_le_mul_right _ hle
      rw [Nat.add_mul] at hmul
      have hcm : xs.length * k ≤ cap * k := Nat.mul_le_mul_right _ r4
      refine .pure (.list 0 k _ (g.β id) (off * k) _ c (fun i => cur.getD (off * k + i) undef) (by omega) (by omega) hlen.symm (by omega) (fun y hy => r6 y (List.mem_of_mem_drop (List.mem_of_mem_take hy))) (by rw [hlen]; simp [Gh.setL]; omega) (fun i hi => ?_) (fun i x hx j c' hc' => ?_))
      · rw [hlen] at hi
        have hi2 : off * k + i < cur.size := by rw [r2]; omega
        rw [cell_of_row _ _ _ _ _ _ r1]
        simp [Array.getD_eq_getD_getElem?, hi2]
      · rw [List.getElem?_take] at hx
        split at hx
        · rw [List.getElem?_drop] at hx
          have := r7 _ _ hx j c' hc'
          rw [Nat.add_mul, Nat.add_assoc] at this
          refine this.keep (fun _ _ _ _ hv => hv) fun y => ?_
          simp only [Gh.setL]
          split
          · rename_i e'; rw [e', r8]; exact Nat.zero_le _
          · exact Nat.le_refl _
        · cases hx

theorem ghost_sound (h : St E n σ a w g) {x : Ghost} (hv : σ.ghost x = some σ') : ∃ g', St E n σ' a w g' := by
  cases x with
  | slot s =>
    simp only [State.ghost] at hv
    split at hv
    · rename_i id k off len c hlook
      split at hv
      · rename_i e xs hrows
        split at hv
        · rename_i hle
          obtain rfl := Option.some.inj hv
          have hid := arrRows_some hrows
          obtain ⟨hsn, hr⟩ := h.env s _ hlook
          exact ⟨_, (h.freeze hid rfl (xs.length * k)).env' hsn (.s (.c (frozen_rel h hid hle hr.c_inv)))⟩
        · cases hv
      · cases hv
    · obtain rfl := Option.some.inj hv; exact ⟨g, h⟩
    · cases hv
  | cell s o =>
    simp only [State.ghost] at hv
    split at hv
    · rename_i i0 o0 hlook
      split at hv
      · rename_i cs hcs
        split at hv
        · rename_i id k off len c hc
          split at hv
          · rename_i e xs hrows
            split at hv
            · rename_i hle
              obtain rfl := Option.some.inj hv
              have hid := arrRows_some hrows
              have hne : i0 ≠ id := by
                intro e'; subst e'
                rw [hcs] at hid; cases hid
              have hf := h.freeze hid rfl (xs.length * k)
              refine ⟨_, hf.setBlk (k := .cells cs) (by simp only; rw [List.getElem?_set_ne (Ne.symm hne)]; exact hcs) (fun h => h) ?_⟩
              have hrel := hf.heap.rel i0 (.cells cs) (by simp only; rw [List.getElem?_set_ne (Ne.symm hne)]; exact hcs)
              have hrel0 := h.heap.rel i0 _ hcs
              cases hrel0 with
              | cells p1 p2 p3 p4 p5 =>
                rename_i vs0 T0
                cases hrel with
                | cells r1 r2 r3 r4 r5 =>
                  rename_i vs T
                  have hvs : vs0 = vs := by
                    have e1 : (g.setL (g.β id) (xs.length * k)).β = g.β := rfl
                    rw [e1, p1] at r1
                    injection r1 with r1; injection r1
                  subst hvs
                  refine .cells r1 (by simpa using r2) (fun j u hj => ?_) r4 r5
                  by_cases hjo : o0 + o = j
                  · subst hjo
                    have hl : o0 + o < cs.length := (List.getElem?_eq_some_iff.1 hc).1
                    rw [List.getElem?_set_self hl] at hj
                    obtain rfl := Option.some.inj hj
                    exact frozen_rel h hid hle (p3 _ _ hc)
                  · rw [List.getElem?_set_ne hjo] at hj
                    exact r3 j u hj
            · cases hv
          · cases hv
        · obtain rfl := Option.some.inj hv; exact ⟨g, h⟩
        · cases hv
      · cases hv
    · cases hv
theorem ghosts_sound : ∀ (l : List Ghost) {σ σ' : State} {g : Gh}, St E n σ a w g → σ.ghosts l = some σ' → ∃ g', St E n σ' a w g' := by
  intro l
  induction l with
  | nil => intro σ σ' g h hv; obtain rfl := Option.some.inj hv; exact ⟨g, h⟩
  | cons x l ih =>
    intro σ σ' g h hv
    simp only [State.ghosts] at hv
    split at hv
    · rename_i s hs
      obtain ⟨g1, h1⟩ := ghost_sound h hs
      exact ih h1 hv
    · cases hv
end
end Go.AI

set_option linter.unusedVariables false
set_option linter.unusedSimpArgs false
namespace Go.AI
open Go Go.RowKit Go.Lib

def dstOk (n : Nat) : Option Nat → Bool
  | some d => decide (d < n)
  | none => true
def cOpA (P : Program) (tk : List Nat) (o : Oper) : Option IOp :=
  match arrOp P tk o with
  | some a => some (.arr a)
  | none => cOp P tk o
def cOper (P : Program) (tk : List Nat) (n : Nat) (ops : Array Oper) (o : Oper) : Option IOper :=
  match cOpA P tk o with
  | some op => if dstOk n o.dst then match o.guard with
      | none => some ⟨o.dst, op, none⟩
      | some (j, want) => match (ops[j]?).bind (·.dst) with
        | some t => some ⟨o.dst, op, some (t, want)⟩
        | none => none
    else none
  | none => none
def cOpers (P : Program) (tk : List Nat) (n : Nat) (ops : Array Oper) : List Oper → Option (List IOper)
  | [] => some []
  | o :: os => match cOper P tk n ops o, cOpers P tk n ops os with
    | some x, some xs => some (x :: xs)
    | _, _ => none

def State.del (σ : State) (dst : Option Nat) : State :=
  match dst with
  | some d => ⟨put σ.env d (.tup []), σ.heap⟩
  | none => σ
/-- An operation whose guard holds. -/
def IOper.act (P : Program) (io : IOper) (σ : State) (K : State → Prop) : Prop :=
  match io.op with
  | .call f args => callGo P σ io.dst f args K
  | .callp f args => callPGo P σ io.dst f args K
  | .callx f args => callXGo P σ io.dst f args K
  | .arr a => arrGo P σ io.dst K a
  | .storeX ts m x v => σ.apart ts x = true ∧ match σ.step io.dst (.store m x v) with
    | some σ' => K σ'
    | none => False
  | .appA e esz bytes z s x => ∀ extra, extra ≤ maxLen → match σ.stepA io.dst e esz bytes z s x extra with
    | some σ' => K σ'
    | none => False
  | .isnil neg x => nilGo (σ.ev x) fun b => (∃ d, io.dst = some d) ∧ K (σ.setD io.dst (.c (.bool (b != neg))))
  | op => match σ.step io.dst op with
    | some σ' => K σ'
    | none => False
def IOper.go (P : Program) (io : IOper) (σ : State) (K : State → Prop) : Prop :=
  match io.guard with
  | none => io.act P σ K
  | some (t, want) => match look σ.env t with
    | some (.c (.bool b)) => if b = want then io.act P σ K else K (σ.del io.dst)
    | some (.tup []) => K (σ.del io.dst)
    | _ => False
def goOps (P : Program) : List IOper → State → (State → Prop) → Prop
  | [], σ, K => K σ
  | o :: os, σ, K => o.go P σ fun σ' => goOps P os σ' K

section
variable {P : Program} {E : Entry} {n : Nat} {σ σ' : State} {a : Act} {w : World} {g : Gh} {tk : List Nat} {v : AV}

theorem Did.wp {o : Oper} (h : Did P E n a w o σ') {next : Act → World → Prop} {Q : Exit → Act → World → Prop} (hn : ∀ a' w' g', St E n σ' a' w' g' → next a' w') : o.wp P a w next Q := by
  obtain ⟨x, w', g', h1, h2⟩ := h
  unfold Oper.wp
  rcases h1 with h1 | ⟨h1, rfl⟩
  · rw [h1]; exact hn _ _ _ h2
  · rw [h1]; exact hn _ _ _ h2

theorem cOp_callp {o : Oper} {f : Opd} {xs : List Opd} (h : cOp P tk o = some (.callp f xs)) : False := by
  obtain ⟨dst, oo, type, pos, after, guard⟩ := o
  cases oo with
  | call c =>
    obtain ⟨callee, xs, argTys⟩ := c
    simp only [cOp] at h
    (repeat' split at h) <;> first | (cases h; done) | (obtain ⟨_, _, h⟩ := Option.map_eq_some_iff.1 h; cases h)
  | makeFunc fn first caps =>
    cases fn <;> simp only [cOp] at h <;> first
      | (split at h
         · obtain ⟨_, _, h⟩ := Option.map_eq_some_iff.1 h; cases h
         · cases h)
      | cases h
  | _ => simp only [cOp] at h; (repeat' split at h) <;> first | (cases h; done) | (obtain ⟨_, _, h⟩ := Option.map_eq_some_iff.1 h; cases h)
theorem cOp_callx {o : Oper} {f : Opd} {xs : List Opd} (h : cOp P tk o = some (.callx f xs)) : False := by
  obtain ⟨dst, oo, type, pos, after, guard⟩ := o
  cases oo with
  | call c =>
    obtain ⟨callee, xs, argTys⟩ := c
    simp only [cOp] at h
    (repeat' split at h) <;> first | (cases h; done) | (obtain ⟨_, _, h⟩ := Option.map_eq_some_iff.1 h; cases h)
  | makeFunc fn first caps =>
    cases fn <;> simp only [cOp] at h <;> first
      | (split at h
         · obtain ⟨_, _, h⟩ := Option.map_eq_some_iff.1 h; cases h
         · cases h)
      | cases h
  | _ => simp only [cOp] at h; (repeat' split at h) <;> first | (cases h; done) | (obtain ⟨_, _, h⟩ := Option.map_eq_some_iff.1 h; cases h)
theorem cOp_arr {o : Oper} {x : AOp} (h : cOp P tk o = some (.arr x)) : False := by
  obtain ⟨dst, oo, type, pos, after, guard⟩ := o
  cases oo with
  | call c =>
    obtain ⟨callee, xs, argTys⟩ := c
    simp only [cOp] at h
    (repeat' split at h) <;> first | (cases h; done) | (obtain ⟨_, _, h⟩ := Option.map_eq_some_iff.1 h; cases h)
  | makeFunc fn first caps =>
    cases fn <;> simp only [cOp] at h <;> first
      | (split at h
         · obtain ⟨_, _, h⟩ := Option.map_eq_some_iff.1 h; cases h
         · cases h)
      | cases h
  | _ => simp only [cOp] at h; (repeat' split at h) <;> first | (cases h; done) | (obtain ⟨_, _, h⟩ := Option.map_eq_some_iff.1 h; cases h)
theorem cOp_storeX {o : Oper} {ts : List Nat} {m : Nat} {x y : Opd} (h : cOp P tk o = some (.storeX ts m x y)) : False := by
  obtain ⟨dst, oo, type, pos, after, guard⟩ := o
  cases oo with
  | call c =>
    obtain ⟨callee, xs, argTys⟩ := c
    simp only [cOp] at h
    (repeat' split at h) <;> first | (cases h; done) | (obtain ⟨_, _, h⟩ := Option.map_eq_some_iff.1 h; cases h)
  | makeFunc fn first caps =>
    cases fn <;> simp only [cOp] at h <;> first
      | (split at h
         · obtain ⟨_, _, h⟩ := Option.map_eq_some_iff.1 h; cases h
         · cases h)
      | cases h
  | _ => simp only [cOp] at h; (repeat' split at h) <;> first | (cases h; done) | (obtain ⟨_, _, h⟩ := Option.map_eq_some_iff.1 h; cases h)
theorem cOp_isnil {o : Oper} {neg : Bool} {x' : Opd} (h : cOp P tk o = some (.isnil neg x')) : ∃ t u x e, o.op = .binOp (if neg then .neq else .eql) t x (.const (.slice none 0 0)) u ∧ cOpd P t x = some x' ∧ P.underlying t = some (.slice e) := by
  obtain ⟨dst, oo, type, pos, after, guard⟩ := o
  cases oo with
  | binOp op t x y u =>
    simp only [cOp] at h
    split at h
    · rename_i a b h1 h2
      split at h
      · cases h
      · cases h
      · cases h
      · (repeat' split at h) <;> cases h
      · (repeat' split at h) <;> cases h
      · rename_i e hu
        split at h
        · injection h with h; injection h with q1 q2; subst q1; subst q2
          exact ⟨t, u, x, e, rfl, h1, hu⟩
        · injection h with h; injection h with q1 q2; subst q1; subst q2
          exact ⟨t, u, x, e, rfl, h1, hu⟩
        · cases h
      · cases h
    · cases h
  | call c =>
    obtain ⟨callee, xs, argTys⟩ := c
    simp only [cOp] at h
    (repeat' split at h) <;> first | (cases h; done) | (obtain ⟨_, _, h⟩ := Option.map_eq_some_iff.1 h; cases h)
  | makeFunc fn first caps =>
    cases fn <;> simp only [cOp] at h <;> first
      | (split at h
         · obtain ⟨_, _, h⟩ := Option.map_eq_some_iff.1 h; cases h
         · cases h)
      | cases h
  | _ => simp only [cOp] at h; (repeat' split at h) <;> first | (cases h; done) | (obtain ⟨_, _, h⟩ := Option.map_eq_some_iff.1 h; cases h)
theorem run_eq_nil {t e : Nat} (ht : P.underlying t = some (.slice e)) (A : Option Addr) (m c : Nat) (w : World) : (Op.equal t (.slice A m c) (.slice none 0 0)).run P w = .ok A.isNone w := by
  have main : ∀ k, (Op.equalIn (k + 1) t (.slice A m c) (.slice none 0 0)).run P w = .ok A.isNone w := fun k => by
    cases A with
    | none => simp [Op.equalIn, run_underlying ht]
    | some A => simp [Op.equalIn, run_underlying ht]
  unfold Op.equal Op.maxDepth
  exact main 9999
theorem isnil_sound (h : St E n σ a w g) {t u e d : Nat} {x : Operand} {x' : Opd} {neg : Bool} {type : Nat} {pos : String} {after : Array Edge} {guard : Option (Nat × Bool)} (hd : d < n) (hu : P.underlying t = some (.slice e)) (hx : cOpd P t x = some x') {k : Bool → Prop} (hgo : nilGo (σ.ev x') k) :
    ∃ b, k b ∧ Did P E n a w ⟨some d, .binOp (if neg then .neq else .eql) t x (.const (.slice none 0 0)) u, type, pos, after, guard⟩ (σ.setD (some d) (.c (.bool (b != neg)))) := by
  have main : ∀ lv e' xs, σ.ev x' = some (.c (.list lv e' xs)) → ∃ A m c, a.eval x = .slice A m c ∧ (xs ≠ [] → A ≠ none) := fun lv e' xs he => by
    have hr := (ev_rel h hx he 0 0).c_inv.list_inv
    generalize hx0 : a.eval x = x0 at hr
    cases hr with
    | nil _ _ A c g1 g2 => exact ⟨A, 0, c, rfl, fun h => absurd rfl h⟩
    | list _ _ _ b o nn c vs g1 g2 gn g3 g4 g5 g6 g7 => exact ⟨_, _, _, rfl, fun _ h => by cases h⟩
  have fin : ∀ A m c, a.eval x = .slice A m c → Did P E n a w ⟨some d, .binOp (if neg then .neq else .eql) t x (.const (.slice none 0 0)) u, type, pos, after, guard⟩ (σ.setD (some d) (.c (.bool (A.isNone != neg)))) := fun A m c hx0 => by
    have hq := run_eq_nil (P := P) hu A m c
    have hcst : a.eval (.const (.slice none 0 0)) = .slice none 0 0 := rfl
    have hg := run_eqGuard_one (P := P) (if neg then .neq else .eql) t x (.const (.slice none 0 0)) (.slice A m c) (.slice none 0 0) rfl (by simp) w
    refine ⟨.bool (A.isNone != neg), w, g, .inl ?_, h.put hd (.s (.c (.pure (.bool _))))⟩
    cases neg with
    | false =>
      simp only [Bool.false_eq_true, if_false] at hg
      simp [execOp, hx0, hg, binOp, hq, hcst]
    | true =>
      simp only [if_true] at hg
      simp [execOp, hx0, hg, binOp, hq, hcst]
  unfold nilGo at hgo
  split at hgo
  · rename_i lv e' he
    obtain ⟨A, m, c, h1, h2⟩ := main lv e' [] he
    cases A with
    | none => exact ⟨true, hgo.1, fin _ m c h1⟩
    | some A => exact ⟨false, hgo.2, fin _ m c h1⟩
  · rename_i lv e' y ys he
    obtain ⟨A, m, c, h1, h2⟩ := main lv e' (y :: ys) he
    cases A with
    | none => exact absurd rfl (h2 (by simp))
    | some A => exact ⟨false, hgo, fin _ m c h1⟩
  · exact hgo.elim
theorem cOp_appA {o : Oper} {e' k b : Nat} {z : List AC} {s' x' : Opd} (h : cOp P tk o = some (.appA e' k b z s' x')) : ∃ t u s x i, o.op = .call { callee := .builtin .append, args := #[s, x], argTypes := #[t, u] } ∧ P.underlying t = some (.slice e') ∧ cOpd P t s = some s' ∧ cOpd P u x = some x' ∧ P.info? e' = some i ∧ zeroOf P e' = some z ∧ (0 < i.size ∧ appSrc P t u i.size = true) ∧ k = i.size ∧ b = i.bytes ∧ z.all AC.pure = true := by
  obtain ⟨dst, oo, type, pos, after, guard⟩ := o
  cases oo with
  | call c =>
    obtain ⟨callee, args, argTypes⟩ := c
    simp only [cOp] at h
    split at h
    · (repeat' split at h) <;> first | (cases h; done) | (obtain ⟨_, _, h⟩ := Option.map_eq_some_iff.1 h; cases h)
    · (repeat' split at h) <;> first | (cases h; done) | (obtain ⟨_, _, h⟩ := Option.map_eq_some_iff.1 h; cases h)
    · obtain ⟨_, _, h⟩ := Option.map_eq_some_iff.1 h; cases h
    · obtain ⟨_, _, h⟩ := Option.map_eq_some_iff.1 h; cases h
    · split at h
      · rename_i s x t u h1 h2
        have h1' : args = #[s, x] := by simpa using congrArg List.toArray h1
        have h2' : argTypes = #[t, u] := by simpa using congrArg List.toArray h2
        subst h1'; subst h2'
        split at h
        · rename_i e s2 x2 ht hs hx
          split at h
          · rename_i i z2 hi hz
            split at h
            · rename_i hcond
              split at h
              · rename_i hq
                have h := Option.some.inj h
                injection h with q1 q2 q3 q4 q5 q6
                subst q1; subst q2; subst q3; subst q4; subst q5; subst q6
                simp only [Bool.and_eq_true, decide_eq_true_eq] at hcond
                refine ⟨t, u, s, x, i, rfl, ht, hs, hx, hi, hz, hcond, rfl, rfl, ?_⟩
                unfold appArr at hq
                split at hq
                · simp only [Bool.and_eq_true] at hq; exact hq.2
                · cases hq
              · cases h
            · cases h
          · cases h
        · cases h
      · cases h
    · cases h
  | makeFunc fn first caps =>
    cases fn <;> simp only [cOp] at h <;> first
      | (split at h
         · obtain ⟨_, _, h⟩ := Option.map_eq_some_iff.1 h; cases h
         · cases h)
      | cases h
  | _ => simp only [cOp] at h; (repeat' split at h) <;> first | (cases h; done) | (obtain ⟨_, _, h⟩ := Option.map_eq_some_iff.1 h; cases h)
theorem appA_act (h : St E n σ a w g) {o : Oper} (hd : ∀ d, o.dst = some d → d < n) {e' k b : Nat} {z : List AC} {s' x' : Opd} (hc : cOp P tk o = some (.appA e' k b z s' x')) {K : State → Prop} (hgo : ∀ extra, extra ≤ maxLen → match σ.stepA o.dst e' k b z s' x' extra with | some σ' => K σ' | none => False) : ∃ σ', K σ' ∧ Did P E n a w o σ' := by
  obtain ⟨t, u, s, x, i, hop, ht, hs, hx, hi, hz, ⟨hpos, hsrc⟩, rfl, rfl, hpure⟩ := cOp_appA hc
  obtain ⟨dst, oo, type, pos, after, guard⟩ := o
  simp only at hop hgo hd
  subst hop
  obtain ⟨zv, i', hi', hiz, hisz, hzs, hzr, hzx⟩ := zeroOf_rel hz
  rw [hi] at hi'; obtain rfl := Option.some.inj hi'
  have hu' : (∃ e', P.underlying u = some (.slice e')) ∨ P.underlying u = some .string := by
    unfold appSrc at hsrc
    split at hsrc
    · rename_i e' he'; exact .inl ⟨e', he'⟩
    · rename_i he'; exact .inr he'
    · cases hsrc
  have hrun : ∀ y w', (Builtin.append_ #[t, u] type #[a.eval s, a.eval x]).run P w = .ok y w' → (execOp a.eval ⟨dst, .call { callee := .builtin .append, args := #[s, x], argTypes := #[t, u] }, type, pos, after, guard⟩).run P w = .ok (.value y) w' := fun y w' hr => by
    simp [execOp, resolve, invoke, builtin, hr]
  have hzrow : z.length = i.size ∧ ∀ (w : World) (g : Gh) (j : Nat) (a : AC), z[j]? = some a → CRel w g.L a (zv.cells.getD j undef) :=
    ⟨hisz.symm, fun w g j a ha => ((hzx w g (0, 0, 0, 0) j a ha).1).toC (List.all_eq_true.1 hpure a (List.mem_of_getElem? ha))⟩
  obtain ⟨k, xs, lv', k', ys, d, hraw, hev, rfl⟩ : ∃ k xs lv' k' ys d, σ.raw s' = some (.c (.list 1 k xs)) ∧ σ.ev x' = some (.c (.list lv' k' ys)) ∧ dst = some d := by
    have g0 := hgo 0 (Nat.zero_le _)
    unfold State.stepA at g0
    cases hst : (match σ.raw s', σ.ev x', dst with
      | some (.c (.list 1 k xs)), some (.c (.list _ k' ys)), some d => true
      | _, _, _ => false) with
    | true =>
      split at hst
      · rename_i k xs lv' k' ys d hraw hev
        exact ⟨k, xs, lv', k', ys, d, hraw, hev, rfl⟩
      · cases hst
    | false =>
      exfalso
      split at hst
      · cases hst
      · rename_i hno
        split at g0
        · rename_i heq
          split at heq
          · exact hno _ _ _ _ _ _ (by assumption) (by assumption) rfl
          · cases heq
        · exact g0
  by_cases hk : k = i.size ∧ k' = i.size
  · obtain ⟨rfl, rfl⟩ := hk
    by_cases hb : (xs.length + ys.length) * i.bytes ≤ 140737488355328 ∧ xs.length + ys.length ≤ 9223372036854775807
    · obtain ⟨news, hsrc, hyl, hyr⟩ := Src.list (P := P) (ev_rel h hx hev 0 0).c_inv.list_inv
      obtain ⟨y, w', g', hr, hA, hB⟩ := appA_sound (ty := type) h ht hu' hi hiz (by rw [hzs, hisz]) hzrow hs hraw hsrc hyl hyr hb.1 hb.2 (hd d rfl)
      cases ys with
      | nil =>
        refine ⟨_, ?_, y, w', g', .inl (hrun _ _ hr), hA rfl⟩
        have g1 := hgo 0 (Nat.zero_le _)
        simp only [State.stepA, hraw, hev, and_self, if_true, if_pos hb] at g1
        exact g1
      | cons y0 ys =>
        obtain ⟨extra, hex, hst⟩ := hB (by simp)
        refine ⟨_, ?_, y, w', g', .inl (hrun _ _ hr), hst⟩
        have g1 := hgo extra hex
        simp only [State.stepA, hraw, hev, and_self, if_true, if_pos hb] at g1
        exact g1
    · have g0 := hgo 0
      simp [State.stepA, hraw, hev, hb] at g0
  · have g0 := hgo 0
    simp [State.stepA, hraw, hev, hk] at g0
theorem act_sound (h : St E n σ a w g) {ops : Array Oper} {o : Oper} {io : IOper} (hc : cOper P tk n ops o = some io) {K : State → Prop} (hgo : io.act P σ K) {next : Act → World → Prop} {Q : Exit → Act → World → Prop} (hn : ∀ σ' a' w' g', K σ' → St E n σ' a' w' g' → next a' w') : o.wp P a w next Q := by
  unfold cOper at hc
  split at hc
  · rename_i op hop
    split at hc
    · rename_i hdst
      have hd : ∀ d, o.dst = some d → d < n := fun d hd => by rw [hd] at hdst; simpa [dstOk] using hdst
      have hio : io.dst = o.dst ∧ io.op = op := by
        split at hc
        · obtain rfl := Option.some.inj hc; exact ⟨rfl, rfl⟩
        · split at hc
          · obtain rfl := Option.some.inj hc; exact ⟨rfl, rfl⟩
          · cases hc
      unfold IOper.act at hgo
      rw [hio.1, hio.2] at hgo
      unfold cOpA at hop
      split at hop
      · rename_i ao hao
        obtain rfl := Option.some.inj hop
        obtain ⟨σ', hk, hdid⟩ := arr_act h hd hao hgo
        exact hdid.wp fun a' w' g' hst => hn _ _ _ _ hk hst
      split at hgo
      · rename_i f args
        obtain ⟨dst, oo, type, pos, after, guard⟩ := o
        cases oo with
        | call c =>
          obtain ⟨callee, xs, argTys⟩ := c
          simp only [cOp] at hop
          split at hop
          · split at hop
            · rename_i f0 _ _ f' xs' hf hxs
              injection hop with hop; injection hop with hop1 hop2; subst hop1; subst hop2
              have := call_sound (P := P) (type := type) (pos := pos) (after := after) (guard := guard) h hd hf hxs (argTys := argTys.toList) hgo (Q := Q) (next := next) hn
              simpa using this
            · cases hop
          all_goals (exfalso; (repeat' split at hop) <;> first | (cases hop; done) | (obtain ⟨_, _, hop⟩ := Option.map_eq_some_iff.1 hop; cases hop))
        | makeFunc fn first caps => 
          exfalso
          cases fn <;> simp only [cOp] at hop <;> first
            | (split at hop
               · obtain ⟨_, _, hop⟩ := Option.map_eq_some_iff.1 hop; cases hop
               · cases hop)
            | cases hop
        | _ => exfalso; simp only [cOp] at hop; (repeat' split at hop) <;> first | (cases hop; done) | (obtain ⟨_, _, hop⟩ := Option.map_eq_some_iff.1 hop; cases hop)
      · exact (cOp_callp hop).elim
      · exact (cOp_callx hop).elim
      · exact (cOp_arr hop).elim
      · exact (cOp_storeX hop).elim
      · rename_i e' k b z s' x'
        obtain ⟨σ', hk, hdid⟩ := appA_act h hd hop hgo
        exact hdid.wp fun a' w' g' hst => hn _ _ _ _ hk hst
      · rename_i neg x'
        obtain ⟨t, u, x, e, hoo, hx, hu⟩ := cOp_isnil hop
        obtain ⟨dst, oo, type, pos, after, guard⟩ := o
        simp only at hoo hgo hd
        subst hoo
        obtain ⟨d, hdd⟩ : ∃ d, dst = some d := by
          unfold nilGo at hgo
          split at hgo
          · exact hgo.1.1
          · exact hgo.1
          · exact hgo.elim
        subst hdd
        obtain ⟨b, ⟨_, hk⟩, hdid⟩ := isnil_sound (P := P) (u := u) (type := type) (pos := pos) (after := after) (guard := guard) (neg := neg) h (hd d rfl) hu hx hgo
        exact hdid.wp fun a' w' g' hst => hn _ _ _ _ hk hst
      · split at hgo
        · rename_i σ' hs
          exact (step_sound h hd hop hs).wp fun a' w' g' hst => hn _ _ _ _ hgo hst
        · exact hgo.elim
    · cases hc
  · cases hc

theorem State.skip (h : St E n σ a w g) {dst : Option Nat} (hd : ∀ d, dst = some d → d < n) : St E n (σ.del dst) (a.put dst undef) w g := by
  cases dst with
  | none => exact h
  | some d => exact h.put (hd d rfl) (VRel.tup rfl fun i a h => by cases h)
theorem VRel.tup_nil {k t : Nat} {v : Value} (h : VRel w g k t (.tup []) v) : v = .tuple #[] := by
  cases h with
  | s h => cases h
  | tup h1 _ =>
    rename_i vs _
    have : vs = #[] := Array.eq_empty_of_size_eq_zero h1.symm
    rw [this]

theorem goOps_sound {ops : Array Oper} {K : State → Prop} {Q : Exit → Act → World → Prop} (hQ : ∀ σ a w g, K σ → St E n σ a w g → Q .normal a w) : ∀ (l : List Oper) (i : Nat) (ios : List IOper) (σ : State) (a : Act) (w : World) (g : Gh), ops.toList.drop i = l → cOpers P tk n ops l = some ios → goOps P ios σ K → St E n σ a w g →
    wpOps P ops Q (List.range' i l.length) a w := by
  intro l
  induction l with
  | nil =>
    intro i ios σ a w g hl hc hgo h
    obtain rfl := Option.some.inj hc
    exact hQ _ _ _ _ hgo h
  | cons o os ih =>
    intro i ios σ a w g hl hc hgo h
    simp only [cOpers] at hc
    split at hc
    · rename_i x xs hx hxs
      obtain rfl := Option.some.inj hc
      have hi : ops[i]? = some o := by
        have := congrArg (·[0]?) hl
        simpa using this
      have hl' : ops.toList.drop (i + 1) = os := by
        have := congrArg List.tail hl
        simpa using this
      simp only [List.length_cons, List.range'_succ, wpOps, hi]
      simp only [goOps] at hgo
      have hnext : ∀ σ' a' w' g', goOps P xs σ' K → St E n σ' a' w' g' → wpOps P ops Q (List.range' (i + 1) os.length) a' w' := fun σ' a' w' g' hk hst => ih (i + 1) xs σ' a' w' g' hl' hxs hk hst
      have hdstio : x.dst = o.dst ∧ ((o.guard = none ∧ x.guard = none) ∨ ∃ j want t, o.guard = some (j, want) ∧ x.guard = some (t, want) ∧ (ops[j]?).bind (·.dst) = some t) := by
        have hx' := hx
        unfold cOper at hx'
        split at hx'
        · split at hx'
          · split at hx'
            · rename_i hg; obtain rfl := Option.some.inj hx'; exact ⟨rfl, .inl ⟨hg, rfl⟩⟩
            · rename_i j want hg
              split at hx'
              · rename_i t ht; obtain rfl := Option.some.inj hx'; exact ⟨rfl, .inr ⟨j, want, t, hg, rfl, ht⟩⟩
              · cases hx'
          · cases hx'
        · cases hx'
      obtain ⟨hdst, hguard⟩ := hdstio
      have hdn : ∀ d, x.dst = some d → d < n := fun d hd => by
        have hx' := hx
        unfold cOper at hx'
        split at hx'
        · split at hx'
          · rename_i hok; rw [hdst] at hd; simpa [dstOk, hd] using hok
          · cases hx'
        · cases hx'
      unfold IOper.go at hgo
      rcases hguard with ⟨hg1, hg2⟩ | ⟨j, want, t, hg1, hg2, ht⟩
      · rw [hg2] at hgo
        have hw : Region.wanted o (yielded ops a.tmps) = true := by simp [Region.wanted, hg1]
        rw [if_pos hw]
        exact .inl (act_sound h hx hgo hnext)
      · rw [hg2] at hgo
        simp only at hgo
        split at hgo
        · rename_i b hb
          obtain ⟨htn, hr⟩ := h.env t _ hb
          have hbv := hr.c_inv.bool_inv
          have hts : a.tmps[t]? = some (.bool b) := by
            have hlt : t < a.tmps.size := by rw [h.size]; exact htn
            rw [Array.getElem?_eq_getElem hlt]
            simpa [Array.getD_eq_getD_getElem?, Array.getElem?_eq_getElem hlt] using hbv
          have hy : yielded ops a.tmps j = some b := by
            simp [yielded, ht, hts]
          split at hgo
          · rename_i hbw
            have hw : Region.wanted o (yielded ops a.tmps) = true := by simp [Region.wanted, hg1, hy, hbw]
            rw [if_pos hw]
            exact .inl (act_sound h hx hgo hnext)
          · rename_i hbw
            have hw : ¬ Region.wanted o (yielded ops a.tmps) = true := by simp [Region.wanted, hg1, hy, hbw]
            rw [if_neg hw, ← hdst]
            exact hnext _ _ _ _ hgo (State.skip h hdn)
        · rename_i hb
          obtain ⟨htn, hr⟩ := h.env t _ hb
          have hbv := VRel.tup_nil hr
          have hts : a.tmps[t]? = some (.tuple #[]) := by
            have hlt : t < a.tmps.size := by rw [h.size]; exact htn
            rw [Array.getElem?_eq_getElem hlt]
            simpa [Array.getD_eq_getD_getElem?, Array.getElem?_eq_getElem hlt] using hbv
          have hy : yielded ops a.tmps j = none := by
            simp [yielded, ht, hts]
          have hw : ¬ Region.wanted o (yielded ops a.tmps) = true := by simp [Region.wanted, hg1, hy]
          rw [if_neg hw, ← hdst]
          exact hnext _ _ _ _ hgo (State.skip h hdn)
        · exact hgo.elim
    · cases hc
end

end Go.AI
