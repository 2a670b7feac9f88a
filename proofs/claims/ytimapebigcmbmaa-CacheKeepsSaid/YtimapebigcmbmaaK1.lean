/- A part of the proofs: a verified symbolic execution of Go's code, and what each function of the program computes; no conditions of its own. -/
import Derived.Below
import Derived.Laws.OwnMore
import Derived.ArgAppend
import Derived.WideLaws
import Derived.Laws.StructEq
import Derived.KernelRfl
import Derived.Laws.BytesString

set_option linter.unusedVariables false
set_option linter.unusedSimpArgs false
namespace Go.AI
open Go Go.RowKit

/-! ### Abstract values -/
/-- One cell. 'list lv esz xs': lv 0: read by others too; 1: its capacity is its length; 2: the spare cells are its own (or as 1). -/
inductive AC where
  | int (k : IntKind) (n : Int)
  | bool (b : Bool)
  | str (s : ByteArray)
  | list (lv : Nat) (esz : Nat) (xs : List (List AC))
  | ptr (p : Option (Nat × Nat))
  | eptr (cs : List AC)
  | sl (id esz off len c : Nat)
  | aptr (id esz i off : Nat)
  | fn (f : Nat) (caps : List AC)
  | nilfn
  | map (id : Nat)
  deriving Inhabited

/-- A value: one cell, a struct or array (its cells), several results. -/
inductive AV where
  | c (a : AC)
  | agg (cs : List AC)
  | tup (vs : List AV)
  deriving Inhabited

def AC.share : AC → AC
  | .list 2 e xs => .list 0 e xs
  | a => a
theorem AC.share_share (a : AC) : a.share.share = a.share := by
  cases a <;> first | rfl | (rename_i lv e xs; unfold AC.share; split <;> (split <;> simp_all))
def AC.norm : AC → AC
  | .list _ e xs => .list 0 e xs
  | a => a
def AV.cells : AV → List AC
  | .c a => [a]
  | .agg cs => cs
  | .tup _ => []
def AV.share : AV → AV
  | .c a => .c a.share
  | .agg cs => .agg (cs.map AC.share)
  | .tup vs => .tup (vs.map fun
    | .c a => .c a.share
    | .agg cs => .agg (cs.map AC.share)
    | .tup _ => .tup [])
def AV.norm : AV → AV
  | .c a => .c a.norm
  | .agg cs => .agg (cs.map AC.norm)
  | .tup vs => .tup (vs.map fun
    | .c a => .c a.norm
    | .agg cs => .agg (cs.map AC.norm)
    | .tup _ => .tup [])

theorem AC.norm_share (a : AC) : a.norm.share = a.norm := by cases a <;> rfl
theorem AV.norm_share (a : AV) : a.norm.share = a.norm := by
  cases a with
  | c a => simp [AV.norm, AV.share, AC.norm_share]
  | agg cs => simp [AV.norm, AV.share, AC.norm_share]
  | tup vs =>
    simp only [AV.norm, AV.share, List.map_map, AV.tup.injEq]
    apply List.map_congr_left
    intro v _
    cases v <;> simp [AC.norm_share]
/-- A cell that may lie in memory that others read. -/
def AC.pure : AC → Bool
  | .int .. | .bool .. | .str .. => true
  | .list lv _ _ => lv ≤ 1
  | _ => false

inductive Blk where
  | cells (cs : List AC)
  | arr (e esz : Nat) (xs : List (List AC))
  | map (es : List (AC × List AC))
  | dead
  deriving Inhabited

structure State where
  env : List (Nat × AV)
  heap : List Blk

def look : List (Nat × AV) → Nat → Option AV
  | [], _ => none
  | (s, v) :: r, t => if s = t then some v else look r t
def put : List (Nat × AV) → Nat → AV → List (Nat × AV)
  | [], t, v => [(t, v)]
  | (s, u) :: r, t, v => if t < s then (t, v) :: (s, u) :: r else if s = t then (t, v) :: r else (s, u) :: put r t v
def kill (l : List (Nat × AV)) (ts : List Nat) : List (Nat × AV) := l.filter fun p => !ts.contains p.1

theorem look_put (l : List (Nat × AV)) (t : Nat) (v : AV) (s : Nat) : look (put l t v) s = if t = s then some v else look l s := by
  induction l with
  | nil => simp [put, look]
  | cons p r ih =>
    obtain ⟨q, u⟩ := p
    by_cases h1 : t < q
    · simp [put, h1, look]
    · by_cases h2 : q = t
      · subst h2
        by_cases h3 : q = s <;> simp [put, look, h3]
      · by_cases h3 : q = s
        · subst h3
          have : ¬ t = q := fun e => h2 e.symm
          simp [put, h1, h2, look, this]
        · simp [put, h1, h2, look, h3, ih]
theorem look_kill (l : List (Nat × AV)) (ts : List Nat) (s : Nat) (v : AV) (h : look (kill l ts) s = some v) : look l s = some v := by
  induction l with
  | nil => simp [kill, look] at h
  | cons p r ih =>
    obtain ⟨q, u⟩ := p
    by_cases hq : q ∈ ts
    · have h' : look (kill r ts) s = some v := by simpa [kill, List.filter_cons, hq] using h
      by_cases h3 : q = s
      · subst h3
        exfalso
        have : ∀ l : List (Nat × AV), look (kill l ts) q = none := by
          intro l
          induction l with
          | nil => rfl
          | cons p r ih =>
            obtain ⟨q', u'⟩ := p
            by_cases hq' : q' ∈ ts
            · simpa [kill, List.filter_cons, hq'] using ih
            · have : q' ≠ q := fun e => hq' (e ▸ hq)
              simpa [kill, List.filter_cons, hq', look, this] using ih
        rw [this] at h'
        cases h'
      · simp [look, h3, ih h']
    · have h' : look ((q, u) :: kill r ts) s = some v := by simpa [kill, List.filter_cons, hq] using h
      by_cases h3 : q = s
      · simpa [look, h3] using h'
      · simp only [look, if_neg h3] at h' ⊢
        exact ih h'

theorem look_keep (l : List (Nat × AV)) (d t : Nat) (v : AV) (hne : t ≠ d) (h : look l t = some v) : look (kill l [d]) t = some v := by
  induction l with
  | nil => cases h
  | cons p r ih =>
    obtain ⟨q, u⟩ := p
    by_cases hq : q = d
    · have : q ≠ t := fun e => hne (e ▸ hq)
      simp only [look, if_neg this] at h
      simpa [kill, List.filter_cons, hq] using ih h
    · by_cases h3 : q = t
      · subst h3; simpa [kill, List.filter_cons, hq, look] using h
      · simp only [look, if_neg h3] at h
        have := ih h
        simpa [kill, List.filter_cons, hq, look, h3] using this

/-! ### What they stand for -/
/-- A place: (0, tmp | 1, block | 2, argument | 3, result; number; component; cell). -/
abbrev Place := Nat × Nat × Nat × Nat
structure Gh where
  m : Nat
  β : Nat → Nat
  cap : Nat → Nat
  L : Nat → Nat
  ow : Nat → Option Place

inductive CRel (w : World) (L : Nat → Nat) : AC → Value → Prop
  | int (k n) : CRel w L (.int k n) (.int k n)
  | bool (b) : CRel w L (.bool b) (.bool b)
  | str (s) : CRel w L (.str s) (.string s)
  | nil (lv esz A c) : lv ≤ 1 → (lv = 1 → c = 0) → CRel w L (.list lv esz []) (.slice A 0 c)
  | list (lv esz xs b o n c) (vs : Nat → Value) : lv ≤ 1 → (lv = 1 → c = xs.length) → n = xs.length → xs.length ≤ c → (∀ x ∈ xs, x.length = esz) → o + xs.length * esz ≤ L b →
      (∀ i, i < xs.length * esz → w.cell? ⟨b, o + i, none⟩ = some (vs i)) → (∀ i x, xs[i]? = some x → ∀ j a, x[j]? = some a → CRel w L a (vs (i * esz + j))) →
      CRel w L (.list lv esz xs) (.slice (some ⟨b, o, none⟩) n c)

inductive XRel (w : World) (g : Gh) : Place → AC → Value → Prop
  | pure {p a v} : CRel w g.L a v → XRel w g p a v
  | capped {p esz xs v} : CRel w g.L (.list 1 esz xs) v → XRel w g p (.list 2 esz xs) v
  | own {p esz xs e v} (us : List Value) : w.ownsRow 0 e esz v xs.length us → (∀ x ∈ xs, x.length = esz) →
      (∀ i x, xs[i]? = some x → ∀ j a, x[j]? = some a → ∃ u, us[i * esz + j]? = some u ∧ CRel w g.L a u) →
      (∀ b, v.ownBlock = some b → g.ow b = some p ∧ g.L b = xs.length * esz) → XRel w g p (.list 2 esz xs) v
  | nilp {p} : XRel w g p (.ptr none) (.pointer none)
  | ptr {p id off} : id < g.m → XRel w g p (.ptr (some (id, off))) (.pointer (some ⟨g.β id, off, none⟩))
  | eptr {p cs b o} (vs : Nat → Value) : o + cs.length ≤ g.L b → (∀ i, i < cs.length → w.cell? ⟨b, o + i, none⟩ = some (vs i)) → (∀ j a, cs[j]? = some a → CRel w g.L a (vs j)) →
      XRel w g p (.eptr cs) (.pointer (some ⟨b, o, none⟩))
  | sl {p id esz off len c} : id < g.m → off + c ≤ g.cap id → len ≤ c → XRel w g p (.sl id esz off len c) (.slice (some ⟨g.β id, off * esz, none⟩) len c)
  | aptr {p id esz i off} : id < g.m → XRel w g p (.aptr id esz i off) (.pointer (some ⟨g.β id, i * esz + off, none⟩))
  | fn {p f caps} (cv : Array Value) : caps.length = cv.size → (∀ a ∈ caps, a.share = a) → (∀ j a, caps[j]? = some a → XRel w g p a (cv.getD j undef)) → XRel w g p (.fn f caps) (.func (.func f) #[] cv)
  | nilfn {p} : XRel w g p .nilfn .nilFunc
  | map {p id} : id < g.m → XRel w g p (.map id) (.map (some (g.β id)))

/-- One value at a place's component. -/
inductive SRel (w : World) (g : Gh) (k t i : Nat) : AV → Value → Prop
  | c {a v} : XRel w g (k, t, i, 0) a v → SRel w g k t i (.c a) v
  | agg {cs vs} : cs.length = vs.size → (∀ j a, cs[j]? = some a → XRel w g (k, t, i, j) a (vs.getD j undef)) → SRel w g k t i (.agg cs) (.agg vs)
inductive VRel (w : World) (g : Gh) (k t : Nat) : AV → Value → Prop
  | s {a v} : SRel w g k t 0 a v → VRel w g k t a v
  | tup {as vs} : as.length = vs.size → (∀ i a, as[i]? = some a → SRel w g k t i a (vs.getD i undef)) → VRel w g k t (.tup as) (.tuple vs)

inductive HRel (w : World) (g : Gh) (id : Nat) : Blk → Prop
  | dead : HRel w g id .dead
  | cells {cs vs T} : w.heap[g.β id]? = some (.cells vs T (0, 0)) → cs.length = vs.size → (∀ j a, cs[j]? = some a → XRel w g (1, id, 0, j) a (vs.getD j undef)) → g.L (g.β id) = 0 → g.ow (g.β id) = none → HRel w g id (.cells cs)
  | arr {e esz xs cur cap} : w.heap[g.β id]? = some (.cells cur e (0, 0)) → cur.size = cap * esz → g.cap id = cap → xs.length ≤ cap → cap ≤ maxLen → (∀ x ∈ xs, x.length = esz) →
      (∀ i x, xs[i]? = some x → ∀ j a, x[j]? = some a → CRel w g.L a (cur.getD (i * esz + j) undef)) → g.L (g.β id) = 0 → g.ow (g.β id) = none → HRel w g id (.arr e esz xs)
  | map {es ents clock} : w.heap[g.β id]? = some (.map ents clock) → es.length = ents.size → (∀ i p, es[i]? = some p → ∃ m, ents[i]? = some m ∧ CRel w g.L p.1 m.key ∧ ∃ v : AV, v.cells = p.2 ∧ SRel w g 1 id i v m.val) →
      g.L (g.β id) = 0 → g.ow (g.β id) = none → HRel w g id (.map es)

def Blk.live : Blk → Bool
  | .dead => false
  | _ => true

structure HSt (w : World) (g : Gh) (H : List Blk) : Prop where
  len : H.length = g.m
  rel : ∀ id b, H[id]? = some b → HRel w g id b
  inj : ∀ id id' b b', H[id]? = some b → H[id']? = some b' → b.live = true → b'.live = true → g.β id = g.β id' → id = id'
  lim : ∀ b, w.heap.size ≤ b → g.L b = 0 ∧ g.ow b = none

/-- The blocks that a call with this heap may write. -/
def Mset (g : Gh) (H : List Blk) (b : Nat) : Prop := (∃ id k, H[id]? = some k ∧ k.live = true ∧ g.β id = b) ∨ ∃ id i j, g.ow b = some (1, id, i, j)

structure Evo (M : Nat → Prop) (w : World) (L : Nat → Nat) (w' : World) (L' : Nat → Nat) : Prop where
  os : w'.os = w.os
  tape : w'.tape = w.tape
  output : w'.output = w.output
  size : w.heap.size ≤ w'.heap.size
  block : ∀ b, b < w.heap.size → ¬ M b → w'.heap[b]? = w.heap[b]?
  lim : ∀ b, b < w.heap.size → ¬ M b → L' b = L b
  cell : ∀ b o v, o < L b → w.cell? ⟨b, o, none⟩ = some v → w'.cell? ⟨b, o, none⟩ = some v
  mono : ∀ b, L b ≤ L' b

theorem Evo.refl (M : Nat → Prop) (w : World) (L : Nat → Nat) : Evo M w L w L := ⟨rfl, rfl, rfl, Nat.le_refl _, fun _ _ _ => rfl, fun _ _ _ => rfl, fun _ _ _ _ h => h, fun _ => Nat.le_refl _⟩
theorem Evo.trans {M M' : Nat → Prop} {w w' w'' : World} {L L' L'' : Nat → Nat} (h : Evo M w L w' L') (k : Evo M' w' L' w'' L'') (hM : ∀ b, b < w.heap.size → M' b → M b) : Evo M w L w'' L'' :=
  ⟨k.os.trans h.os, k.tape.trans h.tape, k.output.trans h.output, Nat.le_trans h.size k.size,
   fun b hb hm => (k.block b (Nat.lt_of_lt_of_le hb h.size) (fun e => hm (hM b hb e))).trans (h.block b hb hm),
   fun b hb hm => (k.lim b (Nat.lt_of_lt_of_le hb h.size) (fun e => hm (hM b hb e))).trans (h.lim b hb hm),
   fun b o v ho hv => k.cell b o v (Nat.lt_of_lt_of_le ho (h.mono b)) (h.cell b o v ho hv), fun b => Nat.le_trans (h.mono b) (k.mono b)⟩

/-! ### Keeping -/
theorem CRel.keep {w w' : World} {L L' : Nat → Nat} (hc : ∀ b o v, o < L b → w.cell? ⟨b, o, none⟩ = some v → w'.cell? ⟨b, o, none⟩ = some v) (hL : ∀ b, L b ≤ L' b) {a : AC} {v : Value} (h : CRel w L a v) : CRel w' L' a v := by
  induction h with
  | int k n => exact .int k n
  | bool b => exact .bool b
  | str s => exact .str s
  | nil lv esz A c h1 h2 => exact .nil lv esz A c h1 h2
  | list lv esz xs b o n c vs h1 h2 hn h3 h4 h5 h6 h7 ih =>
    exact .list lv esz xs b o n c vs h1 h2 hn h3 h4 (Nat.le_trans h5 (hL b)) (fun i hi => hc _ _ _ (by omega) (h6 i hi)) (fun i x hx j a ha => ih i x hx j a ha)
theorem CRel.evo {M : Nat → Prop} {w w' : World} {L L' : Nat → Nat} (e : Evo M w L w' L') {a : AC} {v : Value} (h : CRel w L a v) : CRel w' L' a v := h.keep e.cell e.mono

theorem CRel.pure {w : World} {L : Nat → Nat} {a : AC} {v : Value} (h : CRel w L a v) : a.pure = true := by
  cases h <;> simp_all [AC.pure]
theorem CRel.one {w : World} {L : Nat → Nat} {a : AC} {v : Value} (h : CRel w L a v) : v.oneCell' = true ∧ v.cells = #[v] := by
  cases h <;> exact ⟨rfl, rfl⟩
theorem XRel.one {w : World} {g : Gh} {p : Place} {a : AC} {v : Value} (h : XRel w g p a v) : v.oneCell' = true ∧ v.cells = #[v] := by
  cases h with
  | pure h => exact h.one
  | capped h => exact h.one
  | own us h => 
    rcases h.2 with ⟨rfl, _⟩ | ⟨b, cap, cur, rfl, _⟩ <;> exact ⟨rfl, rfl⟩
  | _ => exact ⟨rfl, rfl⟩

/-- What is laid down of shared cells by lowering the level. -/
theorem CRel.down {w : World} {L : Nat → Nat} {esz : Nat} {xs : List (List AC)} {v : Value} {lv : Nat} (h : CRel w L (.list lv esz xs) v) : CRel w L (.list 0 esz xs) v := by
  cases h with
  | nil _ _ A c h1 h2 => exact .nil 0 esz A c (by omega) (by omega)
  | list _ _ _ b o n c vs h1 h2 hn h3 h4 h5 h6 h7 => exact .list 0 esz xs b o n c vs (by omega) (by omega) hn h3 h4 h5 h6 h7
theorem CRel.normed {w : World} {L : Nat → Nat} {a : AC} {v : Value} (h : CRel w L a v) : CRel w L a.norm v := by
  cases a with
  | list lv e xs => exact h.down
  | _ => exact h
theorem CRel.shared {w : World} {L : Nat → Nat} {a : AC} {v : Value} (h : CRel w L a v) : a.share = a := by
  cases h with
  | nil lv esz A c h1 h2 => 
    have : lv ≠ 2 := by omega
    unfold AC.share; split
    · rename_i he; injection he with he; exact absurd he this
    · rfl
  | list lv esz xs b o n c vs h1 h2 hn h3 h4 h5 h6 h7 =>
    have : lv ≠ 2 := by omega
    unfold AC.share; split
    · rename_i he; injection he with he; exact absurd he this
    · rfl
  | _ => rfl

theorem own_shared {w : World} {g : Gh} {p : Place} {esz : Nat} {xs : List (List AC)} {v : Value} (h : XRel w g p (.list 2 esz xs) v) : CRel w g.L (.list 0 esz xs) v := by
  cases h with
  | pure h => exact h.down
  | capped h => exact h.down
  | own us hown hlen hrel how =>
    rename_i e
    rcases hown.2 with ⟨rfl, hn⟩ | ⟨b, cap, cur, rfl, _, hb, hnc, hcm, hcs, htake⟩
    · obtain rfl : xs = [] := List.eq_nil_of_length_eq_zero hn
      exact .nil 0 esz none 0 (by omega) (by omega)
    · obtain ⟨_, hL⟩ := how b rfl
      refine .list 0 esz xs b 0 _ cap (fun i => us.getD i undef) (by omega) (by omega) rfl hnc hlen (by omega) (fun i hi => ?_) (fun i x hx j a ha => ?_)
      · have hl : i < us.length := by rw [hown.1]; exact hi
        have := hown.cellAt i hi
        rw [Nat.zero_add, this]
        simp [List.getD_eq_getElem?_getD, List.getElem?_eq_getElem hl]
      · obtain ⟨u, hu, hc⟩ := hrel i x hx j a ha
        simpa [List.getD_eq_getElem?_getD, hu] using hc

theorem XRel.share {w : World} {g : Gh} {p q : Place} {a : AC} {v : Value} (h : XRel w g p a v) : XRel w g q a.share v := by
  induction h generalizing q with
  | pure h => rw [h.shared]; exact .pure h
  | capped h => exact .pure h.down
  | own us h1 h2 h3 h4 => exact .pure (own_shared (.own us h1 h2 h3 h4))
  | nilp => exact .nilp
  | ptr h => exact .ptr h
  | eptr vs h1 h2 h3 => exact .eptr vs h1 h2 h3
  | sl h1 h2 h3 => exact .sl h1 h2 h3
  | aptr h => exact .aptr h
  | fn cv h1 h2 h3 ih => exact .fn cv h1 h2 (fun j a ha => by have := ih j a ha (q := q); rwa [h2 a (List.mem_of_getElem? ha)] at this)
  | nilfn => exact .nilfn
  | map h => exact .map h
theorem XRel.place {w : World} {g : Gh} {p q : Place} {a : AC} {v : Value} (h : XRel w g p a v) (hs : a.share = a) : XRel w g q a v := by
  have := h.share (q := q); rwa [hs] at this
theorem XRel.norm {w : World} {g : Gh} {p q : Place} {a : AC} {v : Value} (h : XRel w g p a v) : XRel w g q a.norm v := by
  cases h with
  | pure h => exact .pure h.normed
  | capped h => exact .pure h.down
  | own us h1 h2 h3 h4 => exact .pure (own_shared (.own us h1 h2 h3 h4))
  | nilp => exact .nilp
  | ptr h => exact .ptr h
  | eptr vs h1 h2 h3 => exact .eptr vs h1 h2 h3
  | sl h1 h2 h3 => exact .sl h1 h2 h3
  | aptr h => exact .aptr h
  | fn cv h1 h2 h3 => exact .fn cv h1 h2 (fun j a ha => (h3 j a ha).place (h2 a (List.mem_of_getElem? ha)))
  | nilfn => exact .nilfn
  | map h => exact .map h
theorem XRel.toC {w : World} {g : Gh} {p : Place} {a : AC} {v : Value} (h : XRel w g p a v) (hp : a.pure = true) : CRel w g.L a v := by
  cases h with
  | pure h => exact h
  | _ => simp [AC.pure] at hp

end Go.AI

set_option linter.unusedVariables false
set_option linter.unusedSimpArgs false
namespace Go.AI
open Go Go.RowKit

/-- The world and what is known of it go on; blocks in N may be written. -/
structure GExt (N : Nat → Prop) (w : World) (g : Gh) (w' : World) (g' : Gh) : Prop where
  evo : Evo N w g.L w' g'.L
  m : g.m ≤ g'.m
  β : ∀ id, id < g.m → g'.β id = g.β id
  cap : ∀ id, id < g.m → g'.cap id = g.cap id

theorem GExt.size {N : Nat → Prop} {w : World} {g : Gh} {w' : World} {g' : Gh} (e : GExt N w g w' g') : w.heap.size ≤ w'.heap.size := e.evo.size
theorem GExt.trans {M M' : Nat → Prop} {w w' w'' : World} {g g' g'' : Gh} (h : GExt M w g w' g') (k : GExt M' w' g' w'' g'') (hM : ∀ b, b < w.heap.size → M' b → M b) : GExt M w g w'' g'' :=
  ⟨h.evo.trans k.evo hM, Nat.le_trans h.m k.m, fun id hid => (k.β id (Nat.lt_of_lt_of_le hid h.m)).trans (h.β id hid), fun id hid => (k.cap id (Nat.lt_of_lt_of_le hid h.m)).trans (h.cap id hid)⟩
theorem GExt.cast {N : Nat → Prop} {w w' : World} {g g' g'' : Gh} (e : GExt N w g w' g') (h1 : g''.L = g'.L) (h2 : g''.m = g'.m) (h3 : g''.β = g'.β) (h4 : g''.cap = g'.cap) : GExt N w g w' g'' :=
  ⟨by rw [h1]; exact e.evo, by rw [h2]; exact e.m, by rw [h3]; exact e.β, by rw [h4]; exact e.cap⟩

theorem ownsRow_block {w w' : World} {base : Nat} {e : TypeId} {size n : Nat} {v : Value} {us : List Value} (h : w.ownsRow base e size v n us) (hb : ∀ b, v.ownBlock = some b → w'.heap[b]? = w.heap[b]?) : w'.ownsRow base e size v n us := by
  refine ⟨h.1, ?_⟩
  rcases h.2 with h | ⟨b, cap, cur, rfl, h1, h2, h3⟩
  · exact .inl h
  · exact .inr ⟨b, cap, cur, rfl, h1, by rw [hb b rfl]; exact h2, h3⟩
theorem ownsRow_lt {w : World} {base : Nat} {e : TypeId} {size n : Nat} {v : Value} {us : List Value} (h : w.ownsRow base e size v n us) {b : Nat} (hb : v.ownBlock = some b) : b < w.heap.size := (h.lt b hb).2

theorem XRel.ext {N : Nat → Prop} {w w' : World} {g g' : Gh} (e : GExt N w g w' g') {p q : Place} (ho : ∀ b, b < w.heap.size → g.ow b = some p → ¬ N b ∧ g'.ow b = some q) {a : AC} {v : Value} (h : XRel w g p a v) : XRel w' g' q a v := by
  induction h generalizing q with
  | pure h => exact .pure (h.evo e.evo)
  | capped h => exact .capped (h.evo e.evo)
  | own us h1 h2 h3 h4 =>
    refine .own us (ownsRow_block h1 fun b hb => ?_) h2 (fun i x hx j a ha => ?_) (fun b hb => ?_)
    · have hl := ownsRow_lt h1 hb
      exact e.evo.block b hl (ho b hl (h4 b hb).1).1
    · obtain ⟨u, hu, hc⟩ := h3 i x hx j a ha
      exact ⟨u, hu, hc.evo e.evo⟩
    · have hl := ownsRow_lt h1 hb
      exact ⟨(ho b hl (h4 b hb).1).2, (e.evo.lim b hl (ho b hl (h4 b hb).1).1).trans (h4 b hb).2⟩
  | nilp => exact .nilp
  | ptr h => rw [← e.β _ h]; exact .ptr (Nat.lt_of_lt_of_le h e.m)
  | eptr vs h1 h2 h3 => exact .eptr vs (Nat.le_trans h1 (e.evo.mono _)) (fun i hi => e.evo.cell _ _ _ (by omega) (h2 i hi)) (fun j a ha => (h3 j a ha).evo e.evo)
  | sl h1 h2 h3 => rw [← e.β _ h1]; exact .sl (Nat.lt_of_lt_of_le h1 e.m) (by rw [e.cap _ h1]; exact h2) h3
  | aptr h => rw [← e.β _ h]; exact .aptr (Nat.lt_of_lt_of_le h e.m)
  | fn cv h1 h2 h3 ih => exact .fn cv h1 h2 (fun j a ha => ih j a ha ho)
  | nilfn => exact .nilfn
  | map h => rw [← e.β _ h]; exact .map (Nat.lt_of_lt_of_le h e.m)
theorem SRel.ext {N : Nat → Prop} {w w' : World} {g g' : Gh} (e : GExt N w g w' g') {k t i k' t' i' : Nat} (ho : ∀ b j, b < w.heap.size → g.ow b = some (k, t, i, j) → ¬ N b ∧ g'.ow b = some (k', t', i', j)) {a : AV} {v : Value} (h : SRel w g k t i a v) : SRel w' g' k' t' i' a v := by
  cases h with
  | c h => exact .c (h.ext e fun b hl hb => ho b _ hl hb)
  | agg h1 h2 => exact .agg h1 fun j a ha => (h2 j a ha).ext e fun b hl hb => ho b _ hl hb
theorem VRel.ext {N : Nat → Prop} {w w' : World} {g g' : Gh} (e : GExt N w g w' g') {k t k' t' : Nat} (ho : ∀ b i j, b < w.heap.size → g.ow b = some (k, t, i, j) → ¬ N b ∧ g'.ow b = some (k', t', i, j)) {a : AV} {v : Value} (h : VRel w g k t a v) : VRel w' g' k' t' a v := by
  cases h with
  | s h => exact .s (h.ext e fun b j hl hb => ho b 0 j hl hb)
  | tup h1 h2 => exact .tup h1 fun i a ha => (h2 i a ha).ext e fun b j hl hb => ho b i j hl hb
theorem HRel.ext {N : Nat → Prop} {w w' : World} {g g' : Gh} (e : GExt N w g w' g') {id : Nat} (hid : id < g.m) {k : Blk} (hlt : k.live = true → g.β id < w.heap.size ∧ ¬ N (g.β id) ∧ g'.ow (g.β id) = none)
    (ho : ∀ b i j, b < w.heap.size → g.ow b = some (1, id, i, j) → ¬ N b ∧ g'.ow b = some (1, id, i, j)) (h : HRel w g id k) : HRel w' g' id k := by
  cases h with
  | dead => exact .dead
  | cells h1 h2 h3 h4 h5 =>
    obtain ⟨hl, hn, hw⟩ := hlt rfl
    have hb := e.β id hid
    exact .cells (by rw [hb, e.evo.block _ hl hn]; exact h1) h2 (fun j a ha => (h3 j a ha).ext e fun b hl hb => ho b _ _ hl hb) (by rw [hb, e.evo.lim _ hl hn]; exact h4) (by rw [hb]; exact hw)
  | arr h1 h2 h2' h3 h4 h5 h6 h7 h8 =>
    obtain ⟨hl, hn, hw⟩ := hlt rfl
    have hb := e.β id hid
    exact .arr (by rw [hb, e.evo.block _ hl hn]; exact h1) h2 (by rw [e.cap _ hid]; exact h2') h3 h4 h5 (fun i x hx j a ha => (h6 i x hx j a ha).evo e.evo) (by rw [hb, e.evo.lim _ hl hn]; exact h7) (by rw [hb]; exact hw)
  | map h1 h2 h3 h4 h5 =>
    obtain ⟨hl, hn, hw⟩ := hlt rfl
    have hb := e.β id hid
    refine .map (by rw [hb, e.evo.block _ hl hn]; exact h1) h2 (fun i p hp => ?_) (by rw [hb, e.evo.lim _ hl hn]; exact h4) (by rw [hb]; exact hw)
    obtain ⟨m, hm, hk, v, hv, hr⟩ := h3 i p hp
    exact ⟨m, hm, hk.evo e.evo, v, hv, hr.ext e fun b j hl hb => ho b _ _ hl hb⟩
theorem HRel.lt {w : World} {g : Gh} {id : Nat} {k : Blk} (h : HRel w g id k) (hk : k.live = true) : g.β id < w.heap.size ∧ g.L (g.β id) = 0 ∧ g.ow (g.β id) = none := by
  cases h with
  | dead => cases hk
  | cells h1 h2 h3 h4 h5 => exact ⟨(Array.getElem?_eq_some_iff.1 h1).1, h4, h5⟩
  | arr h1 h2 h2' h3 h4 h5 h6 h7 h8 => exact ⟨(Array.getElem?_eq_some_iff.1 h1).1, h7, h8⟩
  | map h1 h2 h3 h4 h5 => exact ⟨(Array.getElem?_eq_some_iff.1 h1).1, h4, h5⟩

/-- The heap goes on where nothing of it is written. -/
theorem HSt.ext {N : Nat → Prop} {w w' : World} {g g' : Gh} {H : List Blk} (h : HSt w g H) (e : GExt N w g w' g') (hm : g'.m = g.m)
    (hN : ∀ id k, H[id]? = some k → k.live = true → ¬ N (g.β id) ∧ g'.ow (g.β id) = none) (ho : ∀ b id i j, b < w.heap.size → g.ow b = some (1, id, i, j) → ¬ N b ∧ g'.ow b = some (1, id, i, j))
    (hl : ∀ b, w'.heap.size ≤ b → g'.L b = 0 ∧ g'.ow b = none) : HSt w' g' H := by
  have lt : ∀ {id k}, H[id]? = some k → id < g.m := fun {id k} hk => by rw [← h.len]; exact (List.getElem?_eq_some_iff.1 hk).1
  refine ⟨by rw [hm, h.len], fun id k hk => ?_, fun id id' b b' h1 h2 h3 h4 h5 => ?_, hl⟩
  · exact (h.rel id k hk).ext e (lt hk) (fun hlv => ⟨((h.rel id k hk).lt hlv).1, hN id k hk hlv⟩) (fun b i j hl hb => ho b id i j hl hb)
  · rw [e.β _ (lt h1), e.β _ (lt h2)] at h5
    exact h.inj id id' b b' h1 h2 h3 h4 h5

structure Entry where
  w0 : World
  g0 : Gh
  M : Nat → Prop

structure St (E : Entry) (n : Nat) (σ : State) (a : Act) (w : World) (g : Gh) : Prop where
  defers : a.defers = []
  size : a.tmps.size = n
  env : ∀ t v, look σ.env t = some v → t < n ∧ VRel w g 0 t v (a.tmps.getD t undef)
  heap : HSt w g σ.heap
  baseH : ∀ id k, σ.heap[id]? = some k → k.live = true → E.w0.heap.size ≤ g.β id ∨ E.M (g.β id)
  baseO : ∀ b p, g.ow b = some p → E.w0.heap.size ≤ b ∨ E.M b
  evo : GExt E.M E.w0 E.g0 w g

theorem Act.put_getD (a : Act) (d t : Nat) (x : Value) (h : d < a.tmps.size) : (a.put (some d) x).tmps.getD t undef = if d = t then x else a.tmps.getD t undef := by
  simp only [Act.put, Array.getD_eq_getD_getElem?, Array.getElem?_setIfInBounds]
  by_cases e : d = t
  · subst e; simp [h]
  · simp [e]

theorem St.put {E : Entry} {n : Nat} {σ : State} {a : Act} {w : World} {g : Gh} (h : St E n σ a w g) {d : Nat} (hd : d < n) {v : AV} {x : Value} (hv : VRel w g 0 d v x) : St E n ⟨AI.put σ.env d v, σ.heap⟩ (a.put (some d) x) w g := by
  refine ⟨h.defers, by simp [Act.put, h.size], fun t u hu => ?_, h.heap, h.baseH, h.baseO, h.evo⟩
  rw [look_put] at hu
  rw [Act.put_getD _ _ _ _ (by rw [h.size]; exact hd)]
  split at hu
  · rename_i e; subst e
    obtain rfl := Option.some.inj hu
    exact ⟨hd, by rw [if_pos rfl]; exact hv⟩
  · rename_i e
    rw [if_neg e]
    exact h.env t u hu
theorem St.skip {E : Entry} {n : Nat} {σ : State} {a : Act} {w : World} {g : Gh} (h : St E n σ a w g) : St E n σ (a.put none undef) w g := h
/-- A slot that is forgotten. -/
theorem St.forget {E : Entry} {n : Nat} {σ : State} {a : Act} {w : World} {g : Gh} (h : St E n σ a w g) (env' : List (Nat × AV)) (he : ∀ t v, look env' t = some v → look σ.env t = some v) : St E n ⟨env', σ.heap⟩ a w g :=
  ⟨h.defers, h.size, fun t v hv => h.env t v (he t v hv), h.heap, h.baseH, h.baseO, h.evo⟩
theorem St.kill {E : Entry} {n : Nat} {σ : State} {a : Act} {w : World} {g : Gh} (h : St E n σ a w g) (ts : List Nat) : St E n ⟨AI.kill σ.env ts, σ.heap⟩ a w g := h.forget _ fun t v hv => look_kill _ _ _ _ hv
theorem look_del (l : List (Nat × AV)) (d t : Nat) (v : AV) (h : look (AI.kill l [d]) t = some v) : t ≠ d ∧ look l t = some v := by
  refine ⟨?_, look_kill _ _ _ _ h⟩
  rintro rfl
  have : ∀ l : List (Nat × AV), look (AI.kill l [t]) t = none := by
    intro l
    induction l with
    | nil => rfl
    | cons p r ih =>
      obtain ⟨q, u⟩ := p
      by_cases hq : q = t
      · simpa [AI.kill, List.filter_cons, hq] using ih
      · simpa [AI.kill, List.filter_cons, hq, look] using ih
  rw [this] at h; cases h
theorem St.del {E : Entry} {n : Nat} {σ : State} {a : Act} {w : World} {g : Gh} (h : St E n σ a w g) (d : Nat) (x : Value) : St E n ⟨AI.kill σ.env [d], σ.heap⟩ (a.put (some d) x) w g := by
  refine ⟨h.defers, by simp [Act.put, h.size], fun t u hu => ?_, h.heap, h.baseH, h.baseO, h.evo⟩
  obtain ⟨hne, hu⟩ := look_del _ _ _ _ hu
  obtain ⟨h1, h2⟩ := h.env t u hu
  refine ⟨h1, ?_⟩
  have : (a.put (some d) x).tmps.getD t undef = a.tmps.getD t undef := by
    have hne' : d ≠ t := fun e => hne e.symm
    simp [Act.put, Array.getD_eq_getD_getElem?, Array.getElem?_setIfInBounds, hne']
  rw [this]; exact h2

/-- The state goes on where nothing of it is written. -/
theorem St.ext {N : Nat → Prop} {E : Entry} {n : Nat} {σ : State} {a : Act} {w w' : World} {g g' : Gh} (h : St E n σ a w g) (e : GExt N w g w' g') (hm : g'.m = g.m)
    (hN : ∀ b, b < w.heap.size → N b → E.w0.heap.size ≤ b ∨ E.M b)
    (hH : ∀ id k, σ.heap[id]? = some k → k.live = true → ¬ N (g.β id)) (ho : ∀ b p, b < w.heap.size → g.ow b = some p → ¬ N b ∧ g'.ow b = some p)
    (hnew : ∀ b, b < w.heap.size → g.ow b = none → ¬ N b → g'.ow b = none) (hN0 : ∀ b, b < w.heap.size → N b → g'.ow b ≠ none → False)
    (hl : ∀ b, w'.heap.size ≤ b → g'.L b = 0 ∧ g'.ow b = none) : St E n σ a w' g' := by
  have hnone : ∀ id k, σ.heap[id]? = some k → k.live = true → ¬ N (g.β id) ∧ g'.ow (g.β id) = none := fun id k hk hlv =>
    have hlt := (h.heap.rel id k hk).lt hlv
    ⟨hH id k hk hlv, hnew _ hlt.1 hlt.2.2 (hH id k hk hlv)⟩
  refine ⟨h.defers, h.size, fun t v hv => ?_, h.heap.ext e hm hnone (fun b id i j hb hp => ho b _ hb hp) hl, fun id k hk hlv => ?_, fun b p hp => ?_, ?_⟩
  · obtain ⟨h1, h2⟩ := h.env t v hv
    exact ⟨h1, h2.ext e fun b i j hb hp => ho b _ hb hp⟩
  · have lt : id < g.m := by rw [← h.heap.len]; exact (List.getElem?_eq_some_iff.1 hk).1
    rw [e.β id lt]; exact h.baseH id k hk hlv
  · by_cases hb : b < w.heap.size
    · by_cases hn : N b
      · exact (hN0 b hb hn (by rw [hp]; simp)).elim
      · cases hg : g.ow b with
        | none => rw [hnew b hb hg hn] at hp; cases hp
        | some p' => exact h.baseO b p' hg
    · exact .inl (Nat.le_trans h.evo.size (by omega))
  · exact h.evo.trans e fun b hb hn => by
      rcases hN b (Nat.lt_of_lt_of_le hb h.evo.size) hn with h | h
      · omega
      · exact h

/-- Drawing an order or a capacity. -/
theorem GExt.drawn {w : World} {g : Gh} (n : Nat) : GExt (fun _ => False) w g { w with drawn := n } g :=
  ⟨⟨rfl, rfl, rfl, Nat.le_refl _, fun _ _ _ => rfl, fun _ _ _ => rfl, fun _ _ _ _ h => h, fun _ => Nat.le_refl _⟩, Nat.le_refl _, fun _ _ => rfl, fun _ _ => rfl⟩
theorem St.drawn {E : Entry} {n : Nat} {σ : State} {a : Act} {w : World} {g : Gh} (h : St E n σ a w g) (k : Nat) : St E n σ a { w with drawn := k } g :=
  h.ext (GExt.drawn k) rfl (fun _ _ h => h.elim) (fun _ _ _ _ h => h) (fun _ _ _ h => ⟨fun h => h, h⟩) (fun _ _ h _ => h) (fun _ _ h => h.elim) h.heap.lim

end Go.AI

set_option linter.unusedVariables false
set_option linter.unusedSimpArgs false
namespace Go.AI
open Go Go.RowKit

/-! ### Operations, their types looked up -/
inductive Opd where
  | t (n : Nat)
  | c (v : AV)
  deriving Inhabited

/-- Operations on slices that may be written. -/
inductive AOp where
  | copy (esz : Nat) (s x : Opd)
  | appR (e esz bytes : Nat) (s x : Opd)
  | appM (e esz bytes : Nat) (z : List AC) (s k : Opd)
  | clr (esz : Nat) (z : List AC) (x : Opd)
  | cap (x : Opd)
  | ovl (f t : Nat) (x y : Opd)
  deriving Inhabited

inductive IOp where
  | mov (x : Opd)
  | movT (s : Nat)
  | pick (c a b : Opd)
  | bin (op : BinOp) (x y : Opd)
  | binb (op : BinOp) (x y : Opd)
  | eqa (neg : Bool) (ks : List Nat) (x y : Opd)
  | not (x : Opd)
  | neg (x : Opd)
  | toInt (k : IntKind) (x : Opd)
  | s2s (x : Opd)
  | b2s (x : Opd)
  | s2b (e : Nat) (x : Opd)
  | load (n : Option Nat) (x : Opd)
  | loadT (x : Opd)
  | store (n : Nat) (a v : Opd)
  | faddr (off : Nat) (x : Opd)
  | field (off : Nat) (n : Option Nat) (x : Opd)
  | iaddr (esz : Nat) (x i : Opd)
  | aaddr (esz len : Nat) (x i : Opd)
  | sidx (x i : Opd)
  | aidx (esz len : Nat) (n : Option Nat) (x i : Opd)
  | extract (x : Opd) (i : Nat)
  | slen (x : Opd)
  | len (x : Opd)
  | mx (xs : List Opd)
  | mn (xs : List Opd)
  | sstr (x : Opd) (lo hi : Option Opd)
  | slst (esz : Nat) (x : Opd) (lo hi mx : Option Opd)
  | s2a (n : Nat) (x : Opd)
  | mkfn (f : Nat) (caps : List Opd)
  | alloc (cs : List AC)
  | box (x : Opd)
  | build (cs : List AC) (parts : List (Nat × Nat × Opd))
  | bsl (e esz len : Nat) (zero : List AC) (parts : List (Nat × Nat × Opd))
  | append (e esz bytes : Nat) (s x : Opd)
  | appA (e esz bytes : Nat) (z : List AC) (s x : Opd)
  | frz (s : Nat)
  | call (f : Opd) (args : List Opd)
  | callp (f : Opd) (args : List Opd)
  | srt
  | asl (n esz : Nat) (x : Opd)
  | isnil (neg : Bool) (x : Opd)
  | arr (a : AOp)
  | callx (f : Opd) (args : List Opd)
  | storeX (ts : List Nat) (n : Nat) (a v : Opd)
  deriving Inhabited

structure IOper where
  dst : Option Nat
  op : IOp
  guard : Option (Nat × Bool)
  deriving Inhabited

def State.ev (σ : State) : Opd → Option AV
  | .t n => (look σ.env n).map AV.share
  | .c v => some v
def State.evs (σ : State) : List Opd → Option (List AV)
  | [] => some []
  | x :: xs => match σ.ev x, σ.evs xs with
    | some v, some vs => some (v :: vs)
    | _, _ => none

def evInt (op : BinOp) (k k' : IntKind) (a b : Int) : Option AV :=
  match op with
  | .shl => if 0 ≤ b then some (.c (.int k (k.wrap (a * 2 ^ min b.toNat k.bits)))) else none
  | .shr => if 0 ≤ b then some (.c (.int k (a.fdiv (2 ^ min b.toNat k.bits)))) else none
  | op => if k = k' then match op with
    | .add => some (.c (.int k (k.wrap (a + b))))
    | .sub => some (.c (.int k (k.wrap (a - b))))
    | .mul => some (.c (.int k (k.wrap (a * b))))
    | .quo => if b = 0 then none else some (.c (.int k (k.wrap (a.tdiv b))))
    | .rem => if b = 0 then none else some (.c (.int k (a.tmod b)))
    | .and => some (.c (.int k (k.wrap (BitVec.ofInt k.bits a &&& BitVec.ofInt k.bits b).toNat)))
    | .or => some (.c (.int k (k.wrap (BitVec.ofInt k.bits a ||| BitVec.ofInt k.bits b).toNat)))
    | .xor => some (.c (.int k (k.wrap (BitVec.ofInt k.bits a ^^^ BitVec.ofInt k.bits b).toNat)))
    | .eql => some (.c (.bool (a == b)))
    | .neq => some (.c (.bool (a != b)))
    | .lss => some (.c (.bool (decide (a < b))))
    | .leq => some (.c (.bool (decide (a ≤ b))))
    | .gtr => some (.c (.bool (decide (b < a))))
    | .geq => some (.c (.bool (decide (b ≤ a))))
    | _ => none
    else none
def evStr (op : BinOp) (a b : ByteArray) : Option AV :=
  match op with
  | .add => if ((a.size + b.size : Nat) : Int) ≤ 9223372036854775807 then some (.c (.str (a ++ b))) else none
  | .eql => some (.c (.bool (a.toList == b.toList)))
  | .neq => some (.c (.bool !(a.toList == b.toList)))
  | .lss => some (.c (.bool (Op.bytesLess a.toList b.toList)))
  | .leq => some (.c (.bool (Op.bytesLess a.toList b.toList || a.toList == b.toList)))
  | .gtr => some (.c (.bool !(Op.bytesLess a.toList b.toList || a.toList == b.toList)))
  | .geq => some (.c (.bool !(Op.bytesLess a.toList b.toList)))
  | _ => none
def evBool (op : BinOp) (a b : Bool) : Option AV :=
  match op with
  | .eql => some (.c (.bool (a == b)))
  | .neq => some (.c (.bool !(a == b)))
  | _ => none
def evBin (op : BinOp) : AV → AV → Option AV
  | .c (.int k a), .c (.int k' b) => evInt op k k' a b
  | .c (.str a), .c (.str b) => evStr op a b
  | _, _ => none

/-- '==' of cells, in order; 0: a whole number, 1: a bool, 2: a string. -/
def cellsEq : List Nat → List AC → List AC → Option Bool
  | [], [], [] => some true
  | 0 :: ks, .int k a :: xs, .int k' b :: ys => if k = k' then (cellsEq ks xs ys).map fun r => (a == b) && r else none
  | 1 :: ks, .bool a :: xs, .bool b :: ys => (cellsEq ks xs ys).map fun r => (a == b) && r
  | 2 :: ks, .str a :: xs, .str b :: ys => (cellsEq ks xs ys).map fun r => (a.toList == b.toList) && r
  | _, _, _ => none

/-- A part of cells: one, or n of them. -/
def takeC (cs : List AC) (off : Nat) : Option Nat → Option AV
  | none => (cs[off]?).map fun a => .c a.share
  | some n => if off + n ≤ cs.length then some (.agg (((cs.drop off).take n).map AC.share)) else none

def State.rd (σ : State) (n : Option Nat) : AV → Option AV
  | .c (.ptr (some (id, off))) => match σ.heap[id]? with
    | some (.cells cs) => takeC cs off n
    | _ => none
  | .c (.eptr cs) => takeC cs 0 n
  | .c (.aptr id esz i off) => match σ.heap[id]? with
    | some (.arr _ e xs) => if e = esz then match xs[i]? with
        | some cs => takeC cs off n
        | none => none
      else none
    | _ => none
  | _ => none

def byteOf : List AC → Option UInt8
  | [.int .u8 n] => some (UInt8.ofNat n.toNat)
  | _ => none
def bytesOf : List (List AC) → Option (List UInt8)
  | [] => some []
  | x :: xs => match byteOf x, bytesOf xs with
    | some b, some bs => some (b :: bs)
    | _, _ => none
/-- The elements of a byte list. -/
def encB (l : List UInt8) : List (List AC) := l.map fun b => [.int .u8 b.toNat]

/-- A slice expression's bound. -/
def State.bound (σ : State) (d : Nat) : Option Opd → Option Int
  | none => some d
  | some x => match σ.ev x with
    | some (.c (.int _ n)) => some n
    | _ => none

def foldMx : Int → List AV → Option Int
  | a, [] => some a
  | a, .c (.int _ b) :: r => foldMx (if b > a then b else a) r
  | _, _ => none
def foldMn : Int → List AV → Option Int
  | a, [] => some a
  | a, .c (.int _ b) :: r => foldMn (if b < a then b else a) r
  | _, _ => none

/-- Operations that turn nothing: their value. -/
def State.pure (σ : State) : IOp → Option AV
  | .mov x => σ.ev x
  | .pick c a b => match σ.ev c with
    | some (.c (.bool t)) => if t then σ.ev a else σ.ev b
    | _ => none
  | .bin op x y => match σ.ev x, σ.ev y with
    | some u, some v => evBin op u v
    | _, _ => none
  | .binb op x y => match σ.ev x, σ.ev y with
    | some (.c (.bool a)), some (.c (.bool b)) => evBool op a b
    | _, _ => none
  | .eqa neg ks x y => match σ.ev x, σ.ev y with
    | some (.agg xs), some (.agg ys) => (cellsEq ks xs ys).map fun r => .c (.bool (if neg then !r else r))
    | _, _ => none
  | .not x => match σ.ev x with
    | some (.c (.bool b)) => some (.c (.bool !b))
    | _ => none
  | .neg x => match σ.ev x with
    | some (.c (.int k n)) => some (.c (.int k (k.wrap (0 - n))))
    | _ => none
  | .toInt k x => match σ.ev x with
    | some (.c (.int _ n)) => some (.c (.int k (k.wrap n)))
    | some (.c (.str s)) => none
    | _ => none
  | .s2s x => match σ.ev x with
    | some (.c (.str s)) => some (.c (.str s))
    | _ => none
  | .b2s x => match σ.ev x with
    | some (.c (.list _ 1 xs)) => (bytesOf xs).map fun l => .c (.str ⟨l.toArray⟩)
    | _ => none
  | .load n x => match σ.ev x with
    | some p => σ.rd n p
    | none => none
  | .faddr off x => match σ.ev x with
    | some (.c (.ptr (some (id, o)))) => some (.c (.ptr (some (id, o + off))))
    | some (.c (.eptr cs)) => if off ≤ cs.length then some (.c (.eptr (cs.drop off))) else none
    | some (.c (.aptr id esz i o)) => some (.c (.aptr id esz i (o + off)))
    | _ => none
  | .field off n x => match σ.ev x with
    | some (.agg cs) => takeC cs off n
    | _ => none
  | .iaddr esz x i => match σ.ev x, σ.ev i with
    | some (.c (.list _ e xs)), some (.c (.int _ j)) => if 0 ≤ j then match xs[j.toNat]? with
        | some y => if e = esz then some (.c (.eptr y)) else none
        | none => none
      else none
    | some (.c (.sl id e off len _)), some (.c (.int _ j)) => if e = esz then if 0 ≤ j then if j < len then some (.c (.aptr id e (off + j.toNat) 0)) else none else none else none
    | _, _ => none
  | .aaddr esz len x i => match σ.ev x, σ.ev i with
    | some (.c (.ptr (some (id, o)))), some (.c (.int _ j)) => if 0 ≤ j then if j < len then some (.c (.ptr (some (id, o + j.toNat * esz)))) else none else none
    | some (.c (.eptr cs)), some (.c (.int _ j)) => if 0 ≤ j then if j < len then if j.toNat * esz ≤ cs.length then some (.c (.eptr (cs.drop (j.toNat * esz)))) else none else none else none
    | _, _ => none
  | .sidx x i => match σ.ev x, σ.ev i with
    | some (.c (.str s)), some (.c (.int _ j)) => if 0 ≤ j then (s.data.toList[j.toNat]?).map fun b => .c (.int .u8 b.toNat) else none
    | _, _ => none
  | .aidx esz len n x i => match σ.ev x, σ.ev i with
    | some (.agg cs), some (.c (.int _ j)) => if 0 ≤ j then if j < len then takeC cs (j.toNat * esz) n else none else none
    | _, _ => none
  | .extract x i => match σ.ev x with
    | some (.tup vs) => match vs[i]? with
      | some (.c a) => some (.c a.share)
      | some (.agg cs) => some (.agg (cs.map AC.share))
      | _ => none
    | _ => none
  | .slen x => match σ.ev x with
    | some (.c (.str s)) => some (.c (.int .i64 s.size))
    | _ => none
  | .len x => match σ.ev x with
    | some (.c (.list _ _ xs)) => some (.c (.int .i64 xs.length))
    | some (.c (.sl _ _ _ n _)) => some (.c (.int .i64 n))
    | _ => none
  | .mx xs => match σ.evs xs with
    | some (.c (.int k a) :: r) => (foldMx a r).map fun n => .c (.int k n)
    | _ => none
  | .mn xs => match σ.evs xs with
    | some (.c (.int k a) :: r) => (foldMn a r).map fun n => .c (.int k n)
    | _ => none
  | .sstr x lo hi => match σ.ev x with
    | some (.c (.str s)) => match σ.bound 0 lo, σ.bound s.size hi with
      | some l, some h => if 0 ≤ l ∧ l ≤ h ∧ h ≤ s.size then some (.c (.str (s.extract l.toNat h.toNat))) else none
      | _, _ => none
    | _ => none
  | .slst esz x lo hi none => match σ.ev x with
    | some (.c (.list _ e xs)) => match σ.bound 0 lo, σ.bound xs.length hi with
      | some l, some h => if 0 ≤ l ∧ l ≤ h ∧ h ≤ xs.length then if e = esz then some (.c (.list 0 e ((xs.drop l.toNat).take (h.toNat - l.toNat)))) else none else none
      | _, _ => none
    | some (.c (.sl id e off len c)) => match σ.bound 0 lo, σ.bound len hi with
      | some l, some h => if 0 ≤ l ∧ l ≤ h ∧ h ≤ c then if e = esz then some (.c (if c = l.toNat then .list 1 e [] else .sl id e (off + l.toNat) (h.toNat - l.toNat) (c - l.toNat))) else none else none
      | _, _ => none
    | _ => none
  | .slst esz x lo (some hi) (some mx) => match σ.ev x with
    | some (.c (.list _ e xs)) => match σ.bound 0 lo, σ.bound 0 (some hi), σ.bound 0 (some mx) with
      | some l, some h, some m => if 0 ≤ l ∧ l ≤ h ∧ h = m ∧ m ≤ xs.length then if e = esz then some (.c (.list 1 e ((xs.drop l.toNat).take (h.toNat - l.toNat)))) else none else none
      | _, _, _ => none
    | _ => none
  | .s2a n x => match σ.ev x with
    | some (.c (.list _ 1 xs)) => if 0 < n ∧ n ≤ xs.length then some (.c (.eptr xs.flatten)) else none
    | _ => none
  | .mkfn f caps => match σ.evs caps with
    | some vs => (capsOf vs).map fun cs => .c (.fn f cs)
    | none => none
  | .build cs parts => (fillC σ cs parts).map .agg
  | _ => none
where
  capsOf : List AV → Option (List AC)
    | [] => some []
    | .c a :: r => (capsOf r).map (a.share :: ·)
    | _ => none
  fillC (σ : State) : List AC → List (Nat × Nat × Opd) → Option (List AC)
    | cs, [] => some cs
    | cs, (off, n, x) :: r => match σ.ev x with
      | some (.c a) => if n = 1 ∧ off < cs.length then fillC σ (cs.set off a) r else none
      | some (.agg as) => if n = as.length ∧ off + n ≤ cs.length then fillC σ (cs.take off ++ as ++ cs.drop (off + n)) r else none
      | _ => none

/-- Is a list nil? An empty one may be, or not. -/
def nilGo (v : Option AV) (k : Bool → Prop) : Prop :=
  match v with
  | some (.c (.list _ _ [])) => k true ∧ k false
  | some (.c (.list _ _ (_ :: _))) => k false
  | _ => False

/-! ### The translation -/
def szOf (P : Program) (t : TypeId) : Option Nat := (P.info? t).map (·.size)
def aggOf (P : Program) (t : TypeId) : Option (Option Nat) :=
  match P.underlying t with
  | some (.struct _) | some (.array ..) => (szOf P t).map some
  | some _ => some none
  | none => none
def cVal (P : Program) (ty : TypeId) : Value → Option AV
  | .int k n => some (.c (.int k n))
  | .bool b => some (.c (.bool b))
  | .string s => some (.c (.str s))
  | .slice none 0 0 => match P.underlying ty with
    | some (.slice e) => (szOf P e).map fun n => .c (.list 1 n [])
    | _ => none
  | .pointer none => some (.c (.ptr none))
  | .nilFunc => some (.c .nilfn)
  | _ => none
def cOpd (P : Program) (ty : TypeId) : Operand → Option Opd
  | .tmp t => some (.t t)
  | .const v => (cVal P ty v).map .c
  | .func f => some (.c (.c (.fn f [])))
  | .global _ => none
def cOpds (P : Program) : List TypeId → List Operand → Option (List Opd)
  | _, [] => some []
  | t :: ts, x :: xs => match cOpd P t x, cOpds P ts xs with
    | some y, some ys => some (y :: ys)
    | _, _ => none
  | [], x :: xs => match cOpd P 0 x, cOpds P [] xs with
    | some y, some ys => some (y :: ys)
    | _, _ => none
def zeroFs (z : TypeId → Option (List AC)) : List TypeId → Option (List AC)
  | [] => some []
  | t :: ts => match z t, zeroFs z ts with
    | some a, some b => some (a ++ b)
    | _, _ => none
/-- The cells of a type's zero value. -/
def zeroC (P : Program) : Nat → TypeId → Option (List AC)
  | 0, _ => none
  | d + 1, t => match P.underlying t with
    | some (.int k) => some [.int k 0]
    | some .bool => some [.bool false]
    | some .string => some [.str ⟨#[]⟩]
    | some (.slice e) => (szOf P e).map fun n => [.list 1 n []]
    | some (.pointer _) => some [.ptr none]
    | some (.func ..) => some [.nilfn]
    | some (.array n e) => (zeroC P d e).map fun z => (List.replicate n z).flatten
    | some (.struct fs) => zeroFs (zeroC P d) (fs.toList.map (·.type))
    | _ => none
def zeroOk : List AC → List Value → Bool
  | [], [] => true
  | .int k n :: as, .int k' n' :: vs => k == k' && n == n' && zeroOk as vs
  | .bool b :: as, .bool b' :: vs => b == b' && zeroOk as vs
  | .str s :: as, .string s' :: vs => s.size == 0 && s'.size == 0 && zeroOk as vs
  | .list 1 _ [] :: as, .slice none 0 0 :: vs => zeroOk as vs
  | .ptr none :: as, .pointer none :: vs => zeroOk as vs
  | .nilfn :: as, .nilFunc :: vs => zeroOk as vs
  | _, _ => false
/-- The zero value's cells, held against the table's own. -/
def zeroOf (P : Program) (t : TypeId) : Option (List AC) :=
  match zeroC P 20 t, (P.info? t).bind (·.zero) with
  | some cs, some z => if zeroOk cs z.cells.toList && cs.length == z.cells.size && (szOf P t == some cs.length) then some cs else none
  | _, _ => none

def eqFs (P : Program) (q : TypeId → Option (List Nat)) : Nat → List Field → Option (List Nat)
  | _, [] => some []
  | o, f :: fs => if f.name != "_" && f.offset == o then match q f.type with
      | some k => if szOf P f.type == some k.length && k.length != 0 then (eqFs P q (o + k.length) fs).map (k ++ ·) else none
      | none => none
    else none
/-- Is '==' at this type the comparison of its cells, one by one? Their kinds. -/
def eqTy (P : Program) : Nat → TypeId → Option (List Nat)
  | 0, _ => none
  | d + 1, t => match P.underlying t with
    | some (.int _) => some [0]
    | some .bool => some [1]
    | some .string => some [2]
    | some (.struct fs) => if P.stoodInHeld t then none else eqFs P (eqTy P d) 0 fs.toList
    | some (.array n e) => match eqTy P d e with
      | some k => if szOf P e == some k.length then some (List.replicate n k).flatten else none
      | none => none
    | _ => none

def cParts (P : Program) (place : Nat → Option (Nat × Nat × TypeId)) : List (Nat × Operand) → Option (List (Nat × Nat × Opd))
  | [] => some []
  | (i, x) :: r => match place i with
    | some (off, n, t) => match cOpd P t x, cParts P place r with
      | some y, some ys => some ((off, n, y) :: ys)
      | _, _ => none
    | none => none
def cOption (P : Program) : Option Operand → Option (Option Opd)
  | none => some none
  | some x => (cOpd P 0 x).map some

def appSrc (P : Program) (t u : TypeId) (size : Nat) : Bool :=
  match P.underlying u with
  | some (.slice _) => t == u
  | some .string => size == 1
  | _ => false

/-- Is this append to make a block that may be written? -/
def appArr (tk : List Nat) (dst : Option Nat) (z : List AC) : Bool :=
  match dst with
  | some d => tk.contains (d + 1000000) && z.all AC.pure
  | none => false
def cOp (P : Program) (tk : List Nat) (o : Oper) : Option IOp :=
  match o.op with
  | .move x | .assign x => match x, o.dst with
    | .tmp s, some d => if tk.contains (d + 2000000) then some (.frz s) else if tk.contains d && s != d then some (.movT s) else some (.mov (.t s))
    | x, _ => (cOpd P o.type x).map .mov
  | .pick c a b => match cOpd P 0 c, cOpd P o.type a, cOpd P o.type b with
    | some c, some a, some b => some (.pick c a b)
    | _, _, _ => none
  | .alloc e => (zeroOf P e).map .alloc
  | .box e x => (cOpd P e x).map .box
  | .build t parts => match P.underlying t, zeroOf P t with
    | some (.struct fs), some z => if fs.toList.all fun f => (szOf P f.type).isSome then (cParts P (fun i => match fs[i]? with
        | some f => (szOf P f.type).map fun n => (f.offset, n, f.type)
        | none => none) parts.toList).map (.build z) else none
    | some (.array _ e), some z => match szOf P e with
      | some n => (cParts P (fun i => some (i * n, n, e)) parts.toList).map (.build z)
      | none => none
    | _, _ => none
  | .buildSlice t len parts => match P.underlying t with
    | some (.slice e) => match zeroOf P e, P.info? e with
      | some z, some i => if 0 < i.size ∧ len * i.size ≤ 1000 then (cParts P (fun k => some (k * i.size, i.size, e)) parts.toList).map (.bsl e i.size len (List.replicate len z).flatten) else none
      | _, _ => none
    | _ => none
  | .load t x => match aggOf P t, cOpd P 0 x, o.dst with
    | some none, some x, some d => if tk.contains d then some (.loadT x) else some (.load none x)
    | some n, some x, _ => some (.load n x)
    | _, _, _ => none
  | .store t a v => match szOf P t, cOpd P 0 a, cOpd P t v, o.dst with
    | some n, some a, some v, none => some (.store n a v)
    | _, _, _, _ => none
  | .binOp op t x y u => match cOpd P t x, cOpd P u y with
    | some x', some y' => match P.underlying t with
      | some (.int _) | some .string => some (.bin op x' y')
      | some .bool => some (.binb op x' y')
      | some (.struct _) | some (.array ..) => match eqTy P 20 t with
        | some k => if P.eqGuardType P.depth t || szOf P t != some k.length then none else match op with
          | .eql => some (.eqa false k x' y')
          | .neq => some (.eqa true k x' y')
          | _ => none
        | none => none
      | some (.slice _) => match y, op with
        | .const (.slice none 0 0), .eql => some (.isnil false x')
        | .const (.slice none 0 0), .neq => some (.isnil true x')
        | _, _ => none
      | _ => none
    | _, _ => none
  | .unOp op _ x => match op, cOpd P 0 x with
    | .not, some x => some (.not x)
    | .neg, some x => some (.neg x)
    | _, _ => none
  | .convert src dst x => match P.underlying src, P.underlying dst, cOpd P src x with
    | some (.int _), some (.int k), some x => some (.toInt k x)
    | some .string, some .string, some x => some (.s2s x)
    | some (.slice e), some .string, some x => match P.underlying e with
      | some (.int .u8) => some (.b2s x)
      | _ => none
    | some .string, some (.slice e), some x => match P.underlying e, szOf P e with
      | some (.int .u8), some 1 => some (.s2b e x)
      | _, _ => none
    | _, _, _ => none
  | .sliceToArrayPointer t x => match P.underlying t, cOpd P 0 x with
    | some (.array n e), some x => some (.s2a n x)
    | _, _ => none
  | .makeFunc (.func f) first caps => if first.size = 0 then (cOpds P [] caps.toList).map (.mkfn f) else none
  | .slice t x lo hi mx => match P.underlying t, cOpd P t x, cOption P lo, cOption P hi, cOption P mx with
    | some .string, some x, some lo, some hi, some none => some (.sstr x lo hi)
    | some (.slice e), some x, some lo, some hi, some mx => (szOf P e).map fun n => .slst n x lo hi mx
    | some (.array n e), some x, some none, some none, some none => (szOf P e).map fun k => .asl n k x
    | _, _, _, _, _ => none
  | .fieldAddr s x f => match P.underlying s with
    | some (.struct fs) => match fs[f]? with
      | some fd => match szOf P fd.type, cOpd P 0 x with
        | some (n + 1), some x => some (.faddr fd.offset x)
        | _, _ => none
      | none => none
    | _ => none
  | .field t x f => match P.underlying t with
    | some (.struct fs) => match fs[f]? with
      | some fd => match aggOf P fd.type, cOpd P 0 x with
        | some n, some x => some (.field fd.offset n x)
        | _, _ => none
      | none => none
    | _ => none
  | .indexAddr t x i => match P.underlying t, cOpd P t x, cOpd P 0 i with
    | some (.slice e), some x, some i => (szOf P e).map fun n => .iaddr n x i
    | some (.array len e), some x, some i => (szOf P e).map fun n => .aaddr n len x i
    | _, _, _ => none
  | .index t x i => match P.underlying t, cOpd P t x, cOpd P 0 i with
    | some .string, some x, some i => some (.sidx x i)
    | some (.array len e), some x, some i => match szOf P e, aggOf P e with
      | some n, some k => some (.aidx n len k x i)
      | _, _ => none
    | _, _, _ => none
  | .extract x i => (cOpd P 0 x).map fun x => .extract x i
  | .call c => match c.callee with
    | .value f => match cOpd P 0 f, cOpds P c.argTypes.toList c.args.toList with
      | some f, some xs => some (.call f xs)
      | _, _ => none
    | .builtin .len => match c.args.toList, c.argTypes.toList with
      | [x], [t] => match P.underlying t, cOpd P t x with
        | some .string, some x => some (.slen x)
        | some (.slice _), some x => some (.len x)
        | _, _ => none
      | _, _ => none
    | .builtin .max => (cOpds P [] c.args.toList).map .mx
    | .builtin .min => (cOpds P [] c.args.toList).map .mn
    | .builtin .append => match c.args.toList, c.argTypes.toList with
      | [s, x], [t, u] => match P.underlying t, cOpd P t s, cOpd P u x with
        | some (.slice e), some s, some x => match P.info? e, zeroOf P e with
          | some i, some z => if 0 < i.size && appSrc P t u i.size then (if appArr tk o.dst z then some (.appA e i.size i.bytes z s x) else some (.append e i.size i.bytes s x)) else none
          | _, _ => none
        | _, _, _ => none
      | _, _ => none
    | _ => none
  | _ => none

end Go.AI

set_option linter.unusedVariables false
set_option linter.unusedSimpArgs false
namespace Go.AI
open Go Go.RowKit

/-! ### Reading the relation -/
section inv
variable {w : World} {g : Gh} {p : Place} {k t i : Nat} {x : Value}
theorem XRel.int_inv {kd n} (h : XRel w g p (.int kd n) x) : x = .int kd n := by cases h with | pure h => cases h; rfl
theorem XRel.bool_inv {b} (h : XRel w g p (.bool b) x) : x = .bool b := by cases h with | pure h => cases h; rfl
theorem XRel.str_inv {s} (h : XRel w g p (.str s) x) : x = .string s := by cases h with | pure h => cases h; rfl
theorem XRel.list_inv {lv e xs} (h : XRel w g p (.list lv e xs) x) : CRel w g.L (.list 0 e xs) x := by
  cases h with
  | pure h => exact h.down
  | capped h => exact h.down
  | own us h1 h2 h3 h4 => exact own_shared (.own us h1 h2 h3 h4)
theorem XRel.ptr_inv {id off} (h : XRel w g p (.ptr (some (id, off))) x) : id < g.m ∧ x = .pointer (some ⟨g.β id, off, none⟩) := by
  cases h with
  | ptr h => exact ⟨h, rfl⟩
  | pure h => cases h
theorem SRel.c_inv {a} (h : SRel w g k t i (.c a) x) : XRel w g (k, t, i, 0) a x := by cases h with | c h => exact h
theorem VRel.c_inv {a} (h : VRel w g k t (.c a) x) : XRel w g (k, t, 0, 0) a x := by cases h with | s h => exact h.c_inv
theorem VRel.agg_inv {cs} (h : VRel w g k t (.agg cs) x) : ∃ vs : Array Value, x = .agg vs ∧ cs.length = vs.size ∧ ∀ j a, cs[j]? = some a → XRel w g (k, t, 0, j) a (vs.getD j undef) := by
  cases h with | s h => cases h with | agg h1 h2 => exact ⟨_, rfl, h1, h2⟩
theorem VRel.tup_inv {as} (h : VRel w g k t (.tup as) x) : ∃ vs : Array Value, x = .tuple vs ∧ as.length = vs.size ∧ ∀ i a, as[i]? = some a → SRel w g k t i a (vs.getD i undef) := by
  cases h with
  | s h => cases h
  | tup h1 h2 => exact ⟨_, rfl, h1, h2⟩
theorem VRel.ofX {a} (h : XRel w g (k, t, 0, 0) a x) : VRel w g k t (.c a) x := .s (.c h)
theorem VRel.int (kd n) : VRel w g k t (.c (.int kd n)) (.int kd n) := .s (.c (.pure (.int kd n)))
theorem VRel.bool (b) : VRel w g k t (.c (.bool b)) (.bool b) := .s (.c (.pure (.bool b)))
theorem VRel.str (s) : VRel w g k t (.c (.str s)) (.string s) := .s (.c (.pure (.str s)))
end inv

def AV.plain : AV → Prop
  | .tup vs => ∀ v ∈ vs, match v with | .tup _ => False | _ => True
  | _ => True

theorem SRel.share {w : World} {g : Gh} {k t i k' t' i' : Nat} {a : AV} {x : Value} (h : SRel w g k t i a x) : SRel w g k' t' i' a.share x := by
  cases h with
  | c h => exact .c h.share
  | agg h1 h2 => 
    refine .agg (by simpa using h1) fun j a ha => ?_
    simp only [List.getElem?_map] at ha
    obtain ⟨b, hb, rfl⟩ := Option.map_eq_some_iff.1 ha
    exact (h2 j b hb).share
theorem VRel.share {w : World} {g : Gh} {k t k' t' : Nat} {a : AV} {x : Value} (h : VRel w g k t a x) : VRel w g k' t' a.share x := by
  cases h with
  | s h => exact .s h.share
  | tup h1 h2 =>
    refine .tup (by simpa using h1) fun i a ha => ?_
    simp only [List.getElem?_map] at ha
    obtain ⟨b, hb, rfl⟩ := Option.map_eq_some_iff.1 ha
    have hr := h2 i b hb
    generalize Array.getD _ i undef = y at hr ⊢
    cases hr with
    | c h => exact .c h.share
    | agg h1 h2 => exact (SRel.agg h1 h2).share
theorem SRel.norm {w : World} {g : Gh} {k t i k' t' i' : Nat} {a : AV} {x : Value} (h : SRel w g k t i a x) : SRel w g k' t' i' a.norm x := by
  cases h with
  | c h => exact .c h.norm
  | agg h1 h2 => 
    refine .agg (by simpa using h1) fun j a ha => ?_
    simp only [List.getElem?_map] at ha
    obtain ⟨b, hb, rfl⟩ := Option.map_eq_some_iff.1 ha
    exact (h2 j b hb).norm
theorem VRel.norm {w : World} {g : Gh} {k t k' t' : Nat} {a : AV} {x : Value} (h : VRel w g k t a x) : VRel w g k' t' a.norm x := by
  cases h with
  | s h => exact .s h.norm
  | tup h1 h2 =>
    refine .tup (by simpa using h1) fun i a ha => ?_
    simp only [List.getElem?_map] at ha
    obtain ⟨b, hb, rfl⟩ := Option.map_eq_some_iff.1 ha
    have hr := h2 i b hb
    generalize Array.getD _ i undef = y at hr ⊢
    cases hr with
    | c h => exact .c h.norm
    | agg h1 h2 => exact (SRel.agg h1 h2).norm

theorem cVal_rel {P : Program} {ty : Nat} {x : Value} {u : AV} (h : cVal P ty x = some u) (w : World) (g : Gh) (k t : Nat) : VRel w g k t u x ∧ u.share = u := by
  unfold cVal at h
  split at h
  · obtain rfl := Option.some.inj h; exact ⟨.int _ _, rfl⟩
  · obtain rfl := Option.some.inj h; exact ⟨.bool _, rfl⟩
  · obtain rfl := Option.some.inj h; exact ⟨.str _, rfl⟩
  · split at h
    · obtain ⟨n, hn, rfl⟩ := Option.map_eq_some_iff.1 h
      exact ⟨.s (.c (.pure (.nil 1 n none 0 (by omega) (by simp)))), rfl⟩
    · cases h
  · obtain rfl := Option.some.inj h; exact ⟨.s (.c .nilp), rfl⟩
  · obtain rfl := Option.some.inj h; exact ⟨.s (.c .nilfn), rfl⟩
  · cases h

section ev
variable {P : Program} {E : Entry} {n : Nat} {σ : State} {a : Act} {w : World} {g : Gh}
theorem eval_tmp (h : St E n σ a w g) {s : Nat} {v : AV} (hv : look σ.env s = some v) : s < n ∧ VRel w g 0 s v (a.eval (.tmp s)) := h.env s v hv
theorem ev_rel (h : St E n σ a w g) {ty : Nat} {x : Operand} {y : Opd} (hc : cOpd P ty x = some y) {u : AV} (hu : σ.ev y = some u) (k t : Nat) : VRel w g k t u (a.eval x) := by
  unfold cOpd at hc
  split at hc
  · obtain rfl := Option.some.inj hc
    obtain ⟨v, hv, rfl⟩ := Option.map_eq_some_iff.1 hu
    exact (h.env _ _ hv).2.share
  · obtain ⟨v, hv, rfl⟩ := Option.map_eq_some_iff.1 hc
    obtain rfl := Option.some.inj hu
    exact (cVal_rel hv w g k t).1
  · obtain rfl := Option.some.inj hc
    obtain rfl := Option.some.inj hu
    exact .s (.c (.fn #[] rfl (by simp) (by simp)))
  · cases hc
theorem evs_rel (h : St E n σ a w g) : ∀ {tys : List Nat} {xs : List Operand} {ys : List Opd} (hc : cOpds P tys xs = some ys) {us : List AV} (hu : σ.evs ys = some us) (k : Nat),
    us.length = xs.length ∧ ∀ (i : Nat) (u : AV), us[i]? = some u → ∃ x, xs[i]? = some x ∧ ∀ t, VRel w g k t u (a.eval x) := by
  intro tys xs
  induction xs generalizing tys with
  | nil => 
    intro ys hc us hu k
    have : ys = [] := by cases tys <;> simpa [cOpds] using hc.symm
    subst this
    obtain rfl := Option.some.inj hu
    exact ⟨rfl, by simp⟩
  | cons x xs ih =>
    intro ys hc us hu k
    obtain ⟨ty, tys', y, ys', hy, hys, rfl⟩ : ∃ ty tys' y ys', cOpd P ty x = some y ∧ cOpds P tys' xs = some ys' ∧ ys = y :: ys' := by
      cases tys with
      | nil =>
        simp only [cOpds] at hc
        split at hc
        · rename_i y ys' h1 h2; exact ⟨_, _, _, _, h1, h2, (Option.some.inj hc).symm⟩
        · cases hc
      | cons ty tys =>
        simp only [cOpds] at hc
        split at hc
        · rename_i y ys' h1 h2; exact ⟨_, _, _, _, h1, h2, (Option.some.inj hc).symm⟩
        · cases hc
    simp only [State.evs] at hu
    split at hu
    · rename_i v vs h1 h2
      obtain rfl := Option.some.inj hu
      obtain ⟨h3, h4⟩ := ih hys h2 k
      refine ⟨by simp [h3], fun i u hi => ?_⟩
      cases i with
      | zero => simp at hi; subst hi; exact ⟨x, rfl, fun t => ev_rel h hy h1 k t⟩
      | succ i => simpa using h4 i u (by simpa using hi)
    · cases hu
end ev

/-! ### Cells and parts -/
theorem run_isAgg {P : Program} {t : Nat} {r : Option Nat} (h : aggOf P t = some r) (w : World) : (isAgg t).run P w = .ok r.isSome w ∧ ∀ n, r = some n → (sizeOf t).run P w = .ok n w := by
  unfold aggOf at h
  split at h
  · rename_i hu
    obtain ⟨n, hn, rfl⟩ := Option.map_eq_some_iff.1 h
    unfold szOf at hn
    obtain ⟨i, hi, rfl⟩ := Option.map_eq_some_iff.1 hn
    exact ⟨by simp [isAgg, run_underlying hu], by rintro _ ⟨⟩; simp [sizeOf, typeInfo, hi]⟩
  · rename_i hu
    obtain ⟨n, hn, rfl⟩ := Option.map_eq_some_iff.1 h
    unfold szOf at hn
    obtain ⟨i, hi, rfl⟩ := Option.map_eq_some_iff.1 hn
    exact ⟨by simp [isAgg, run_underlying hu], by rintro _ ⟨⟩; simp [sizeOf, typeInfo, hi]⟩
  · rename_i d h1 h2 hu
    obtain rfl := Option.some.inj h
    refine ⟨?_, by rintro _ ⟨⟩⟩
    simp only [isAgg, Sem.run_bind, run_underlying hu, Result.andThen_ok]
    cases d with
    | struct fs => exact (h1 fs rfl).elim
    | array k e => exact (h2 k e rfl).elim
    | _ => rfl
  · cases h
theorem run_sizeOf {P : Program} {t n : Nat} (h : szOf P t = some n) (w : World) : (sizeOf t).run P w = .ok n w := by
  unfold szOf at h
  obtain ⟨i, hi, rfl⟩ := Option.map_eq_some_iff.1 h
  simp [sizeOf, typeInfo, hi]

theorem takeC_part {P : Program} {w w' : World} {g : Gh} {cs : List AC} {vs : Array Value} {p : Nat → Place} (hl : cs.length = vs.size) (hr : ∀ j a, cs[j]? = some a → XRel w g (p j) a (vs.getD j undef)) {ft off : Nat} {r : Option Nat} (ha : aggOf P ft = some r) {u : AV} (hu : takeC cs off r = some u) :
    ∃ x, (part ft vs off).run P w' = .ok x w' ∧ ∀ k t, VRel w g k t u x := by
  obtain ⟨h1, h2⟩ := run_isAgg ha w'
  cases r with
  | none =>
    simp only [takeC] at hu
    obtain ⟨c, hc, rfl⟩ := Option.map_eq_some_iff.1 hu
    have hlt : off < vs.size := by rw [← hl]; exact (List.getElem?_eq_some_iff.1 hc).1
    refine ⟨vs.getD off undef, ?_, fun k t => .s (.c (hr off c hc).share)⟩
    simp only [part, Sem.run_bind, h1, Result.andThen_ok, Option.isSome, Bool.false_eq_true, if_false, Array.getElem?_eq_getElem hlt, Sem.run_pure]
    simp [Array.getD_eq_getD_getElem?, Array.getElem?_eq_getElem hlt]
  | some n =>
    simp only [takeC] at hu
    split at hu
    · rename_i hle
      obtain rfl := Option.some.inj hu
      refine ⟨.agg (vs.extract off (off + n)), ?_, fun k t => .s (.agg ?_ fun j a ha => ?_)⟩
      · simp [part, Sem.run_bind, h1, h2 n rfl]
      · simp; omega
      · simp only [List.getElem?_map, List.getElem?_take, List.getElem?_drop] at ha
        obtain ⟨b, hb, rfl⟩ := Option.map_eq_some_iff.1 ha
        split at hb
        · rename_i hj
          have := hr _ _ hb
          have he : (vs.extract off (off + n)).getD j undef = vs.getD (off + j) undef := by
            simp only [Array.getD_eq_getD_getElem?]
            congr 1
            rw [Array.getElem?_extract]
            have : j < min (off + n) vs.size - off := by omega
            simp [this]
          rw [he]; exact this.share
        · cases hb
    · cases hu
end Go.AI

set_option linter.unusedVariables false
set_option linter.unusedSimpArgs false
namespace Go.AI
open Go Go.RowKit

theorem takeC_load {P : Program} {w : World} {g : Gh} {cs : List AC} {f : Nat → Value} {p : Nat → Place} {b o : Nat} (hr : ∀ j a, cs[j]? = some a → XRel w g (p j) a (f j) ∧ w.cell? ⟨b, o + j, none⟩ = some (f j))
    {t off : Nat} {r : Option Nat} (ha : aggOf P t = some r) {u : AV} (hu : takeC cs off r = some u) : ∃ x, (loadVar t ⟨b, o + off, none⟩).run P w = .ok x w ∧ ∀ k t, VRel w g k t u x := by
  obtain ⟨h1, h2⟩ := run_isAgg ha w
  cases r with
  | none =>
    simp only [takeC] at hu
    obtain ⟨c, hc, rfl⟩ := Option.map_eq_some_iff.1 hu
    obtain ⟨hx, hcell⟩ := hr off c hc
    refine ⟨f off, ?_, fun k t => .s (.c hx.share)⟩
    simp only [loadVar, Sem.run_bind, h1, Result.andThen_ok, Option.isSome, Bool.false_eq_true, if_false]
    simp [load, Sem.run, hcell]
  | some n =>
    simp only [takeC] at hu
    split at hu
    · rename_i hle
      obtain rfl := Option.some.inj hu
      refine ⟨.agg ((List.range n).map fun j => f (off + j)).toArray, ?_, fun k t => .s (.agg (by simp; omega) fun j a ha => ?_)⟩
      · have hl := run_loadCells_list (P := P) w ⟨b, o + off, none⟩ ((List.range n).map fun j => f (off + j)) (fun j v hv => by
          simp only [List.getElem?_map, List.getElem?_range] at hv
          by_cases hj : j < n
          · simp only [List.getElem?_range hj, Option.map_some, Option.some.injEq] at hv
            have hlt : off + j < cs.length := by omega
            have := (hr (off + j) cs[off + j] (List.getElem?_eq_getElem hlt)).2
            rw [Addr.add_lit, ← hv, Nat.add_assoc]; exact this
          · simp [List.getElem?_eq_none (show (List.range n).length ≤ j by simp; omega)] at hv)
        simp only [List.length_map, List.length_range] at hl
        simp [loadVar, Sem.run_bind, h1, h2 n rfl, hl]
      · simp only [List.getElem?_map, List.getElem?_take, List.getElem?_drop] at ha
        obtain ⟨b', hb, rfl⟩ := Option.map_eq_some_iff.1 ha
        split at hb
        · rename_i hj
          have he : (((List.range n).map fun j => f (off + j)).toArray).getD j undef = f (off + j) := by
            simp [Array.getD_eq_getD_getElem?, List.getElem?_range hj]
          rw [he]; exact (hr _ _ hb).1.share
        · cases hb
    · cases hu

theorem flat_at {xs : List (List AC)} {esz : Nat} (hl : ∀ x ∈ xs, x.length = esz) {i j : Nat} {x : List AC} {a : AC} (hx : xs[i]? = some x) (ha : x[j]? = some a) : i * esz + j < xs.length * esz ∧ xs.flatten[i * esz + j]? = some a := by
  induction xs generalizing i with
  | nil => simp at hx
  | cons y ys ih =>
    have hy : y.length = esz := hl y (by simp)
    have hys : ∀ x ∈ ys, x.length = esz := fun x hx => hl x (by simp [hx])
    cases i with
    | zero =>
      simp at hx; subst hx
      have hj : j < y.length := (List.getElem?_eq_some_iff.1 ha).1
      refine ⟨by simp [Nat.add_mul]; omega, ?_⟩
      simp only [List.flatten_cons, Nat.zero_mul, Nat.zero_add]
      rw [List.getElem?_append_left hj]; exact ha
    | succ i =>
      obtain ⟨h1, h2⟩ := ih hys (by simpa using hx)
      refine ⟨by simp only [List.length_cons, Nat.add_mul, Nat.one_mul] at *; omega, ?_⟩
      simp only [List.flatten_cons]
      rw [List.getElem?_append_right (by rw [hy, Nat.add_mul]; omega), hy, show (i + 1) * esz + j - esz = i * esz + j by rw [Nat.add_mul]; omega]
      exact h2
theorem flat_len {xs : List (List AC)} {esz : Nat} (hl : ∀ x ∈ xs, x.length = esz) : xs.flatten.length = xs.length * esz := by
  induction xs with
  | nil => simp
  | cons y ys ih => simp [hl y (by simp), ih fun x hx => hl x (by simp [hx]), Nat.add_mul, Nat.add_comm]

section
variable {P : Program} {E : Entry} {n : Nat} {σ : State} {a : Act} {w : World} {g : Gh}

theorem rd_sound (h : St E n σ a w g) {t : Nat} {r : Option Nat} (ha : aggOf P t = some r) {p u : AV} {k s : Nat} {x : Value} (hp : VRel w g k s p x) (hu : σ.rd r p = some u) :
    ∃ ad y, x = .pointer (some ad) ∧ (loadVar t ad).run P w = .ok y w ∧ ∀ k t, VRel w g k t u y := by
  unfold State.rd at hu
  split at hu
  · rename_i id off
    obtain ⟨h1, rfl⟩ := hp.c_inv.ptr_inv
    split at hu
    · rename_i cs hcs
      have hH := h.heap.rel _ _ hcs
      cases hH with
      | cells h2 h3 h4 h5 h6 =>
        rename_i vs T
        obtain ⟨y, hy, hr⟩ := takeC_load (P := P) (w := w) (g := g) (f := fun j => vs.getD j undef) (p := fun j => (1, id, 0, j)) (b := g.β id) (o := 0) (fun j c hc => ⟨h4 j c hc, by
          have hlt : j < vs.size := by rw [← h3]; exact (List.getElem?_eq_some_iff.1 hc).1
          rw [cell_of_row w _ _ _ _ _ h2, Nat.zero_add]
          simp [Array.getD_eq_getD_getElem?, Array.getElem?_eq_getElem hlt]⟩) ha hu
        rw [Nat.zero_add] at hy
        exact ⟨_, y, rfl, hy, hr⟩
    · cases hu
  · rename_i cs
    have hx := hp.c_inv
    cases hx with
    | pure hc => cases hc
    | eptr vs h1 h2 h3 =>
      obtain ⟨y, hy, hr⟩ := takeC_load (P := P) (w := w) (g := g) (f := vs) (p := fun j => (0, 0, 0, 0)) (fun j c hc => ⟨.pure (h3 j c hc), h2 j (List.getElem?_eq_some_iff.1 hc).1⟩) ha hu
      exact ⟨_, y, rfl, hy, hr⟩
  · rename_i id esz i off
    have hx := hp.c_inv
    cases hx with
    | pure hc => cases hc
    | aptr h1 =>
      split at hu
      · rename_i e esz' xs hxs
        have hH := h.heap.rel _ _ hxs
        split at hu
        · rename_i he; subst he
          split at hu
          · rename_i cs hcs
            cases hH with
            | arr h2 h3 h4 h5 h6 h7 h8 h9 h10 =>
              rename_i cur cap
              obtain ⟨y, hy, hr⟩ := takeC_load (P := P) (w := w) (g := g) (f := fun j => cur.getD (i * esz' + j) undef) (p := fun j => (0, 0, 0, 0)) (b := g.β id) (o := i * esz') (fun j c hc => ⟨.pure (h8 i cs hcs j c hc), by
                have hlt : i * esz' + j < cur.size := by
                  have := (flat_at h7 hcs hc).1
                  rw [h3]; exact Nat.lt_of_lt_of_le this (Nat.mul_le_mul_right _ h5)
                rw [cell_of_row w _ _ _ _ _ h2]
                simp [Array.getD_eq_getD_getElem?, Array.getElem?_eq_getElem hlt]⟩) ha hu
              exact ⟨_, y, rfl, hy, hr⟩
          · cases hu
        · cases hu
      · cases hu
  · cases hu

theorem bytes_rel {w : World} {L : Nat → Nat} {xs : List (List AC)} {v : Value} {l : List UInt8} (h : CRel w L (.list 0 1 xs) v) (hb : bytesOf xs = some l) :
    ∃ A c, v = .slice A xs.length c ∧ l.length = xs.length ∧ (∀ b o, A = some ⟨b, o, none⟩ → ∀ i y, l[i]? = some y → ∃ z : Int, w.cell? ⟨b, o + i, none⟩ = some (Value.int .u8 z) ∧ UInt8.ofNat z.toNat = y) ∧ (xs ≠ [] → ∃ b o, A = some ⟨b, o, none⟩) := by
  have key : ∀ (xs : List (List AC)) (l : List UInt8), bytesOf xs = some l → l.length = xs.length ∧ ∀ (i : Nat) (y : UInt8), l[i]? = some y → ∃ z : Int, xs[i]? = some [AC.int .u8 z] ∧ UInt8.ofNat z.toNat = y := by
    intro xs
    induction xs with
    | nil => intro l hl; simp [bytesOf] at hl; subst hl; simp
    | cons x xs ih =>
      intro l hl
      simp only [bytesOf] at hl
      split at hl
      · rename_i b bs h1 h2
        obtain rfl := Option.some.inj hl
        obtain ⟨h3, h4⟩ := ih bs h2
        refine ⟨by simp [h3], fun i y hy => ?_⟩
        cases i with
        | zero =>
          simp at hy; subst hy
          unfold byteOf at h1
          split at h1
          · exact ⟨_, rfl, Option.some.inj h1⟩
          · cases h1
        | succ i => simpa using h4 i y (by simpa using hy)
      · cases hl
  obtain ⟨h1, h2⟩ := key xs l hb
  cases h with
  | nil _ _ A c _ _ => 
    refine ⟨A, c, rfl, h1, fun b o _ i y hy => ?_, fun h => (h rfl).elim⟩
    obtain ⟨z, hz, _⟩ := h2 i y hy
    simp at hz
  | list _ _ _ b o n' c vs g1 g2 gn g3 g4 g5 g6 g7 =>
    subst gn
    refine ⟨_, c, rfl, h1, fun b' o' he i y hy => ?_, fun _ => ⟨b, o, rfl⟩⟩
    injection he with he; injection he with he1 he2; subst he1; subst he2
    obtain ⟨z, hz, hy'⟩ := h2 i y hy
    have hlt : i < xs.length := (List.getElem?_eq_some_iff.1 hz).1
    have hc := g6 i (by omega)
    have hr := g7 i _ hz 0 _ rfl
    rw [Nat.mul_one, Nat.add_zero] at hr
    generalize vs i = y0 at hr hc
    cases hr with
    | int k m => exact ⟨z, hc, hy'⟩

end
end Go.AI

set_option linter.unusedVariables false
set_option linter.unusedSimpArgs false
namespace Go.AI
open Go Go.RowKit

/-- What a quiet operation must show. -/
def Runs (P : Program) (a : Act) (w : World) (g : Gh) (o : Oper) (v : AV) : Prop := ∃ x, (execOp a.eval o).run P w = .ok (.value x) w ∧ ∀ k t, VRel w g k t v x

section
variable {P : Program} {E : Entry} {n : Nat} {σ : State} {a : Act} {w : World} {g : Gh} {tk : List Nat} {v : AV}
  {dst : Option Nat} {type : Nat} {pos : String} {after : Array Edge} {guard : Option (Nat × Bool)} {iop : IOp}

theorem ps_mov (h : St E n σ a w g) {x : Operand} {y : Opd} (hy : cOpd P type x = some y) (hv : σ.ev y = some v) :
    Runs P a w g ⟨dst, .move x, type, pos, after, guard⟩ v ∧ Runs P a w g ⟨dst, .assign x, type, pos, after, guard⟩ v :=
  ⟨⟨a.eval x, rfl, fun k t => ev_rel h hy hv k t⟩, ⟨a.eval x, rfl, fun k t => ev_rel h hy hv k t⟩⟩

theorem ps_pick (h : St E n σ a w g) {c x y : Operand} {c' x' y' : Opd} {tc tx ty : Nat} (hc : cOpd P tc c = some c') (hx : cOpd P tx x = some x') (hy : cOpd P ty y = some y') (hv : σ.pure (.pick c' x' y') = some v) :
    Runs P a w g ⟨dst, .pick c x y, type, pos, after, guard⟩ v := by
  simp only [State.pure] at hv
  split at hv
  · rename_i t ht
    have hb := (ev_rel h hc ht 0 0).c_inv.bool_inv
    cases t
    · exact ⟨a.eval y, by simp [execOp, hb, asBool], fun k t => ev_rel h hy hv k t⟩
    · exact ⟨a.eval x, by simp [execOp, hb, asBool], fun k t => ev_rel h hx hv k t⟩
  · cases hv

theorem run_evInt {op : BinOp} {k k' : IntKind} {x y : Int} {v : AV} (h : evInt op k k' x y = some v) (t : Nat) (w : World) : ∃ z, (binOp op t (.int k x) (.int k' y)).run P w = .ok z w ∧ ∀ w g k t, VRel w g k t v z := by
  have hsh : op = .shl ∨ op = .shr ∨ (op ≠ .shl ∧ op ≠ .shr) := by cases op <;> simp
  rcases hsh with rfl | rfl | ⟨h1, h2⟩
  · simp only [evInt] at h
    by_cases h0 : 0 ≤ y
    · rw [if_pos h0] at h; obtain rfl := Option.some.inj h
      refine ⟨_, ?_, fun _ _ _ _ => .int _ _⟩
      simp [binOp, Op.shift, show ¬ y < 0 by omega]
    · rw [if_neg h0] at h; cases h
  · simp only [evInt] at h
    by_cases h0 : 0 ≤ y
    · rw [if_pos h0] at h; obtain rfl := Option.some.inj h
      refine ⟨_, ?_, fun _ _ _ _ => .int _ _⟩
      simp [binOp, Op.shift, show ¬ y < 0 by omega]
    · rw [if_neg h0] at h; cases h
  · by_cases hk : k = k'
    · subst hk
      cases op <;> simp only [evInt, if_true] at h
      all_goals first
        | (obtain rfl := Option.some.inj h; refine ⟨_, ?_, fun _ _ _ _ => .int _ _⟩; (simp [binOp, Op.intArith, Op.intCmp, Op.intBits]; done))
        | (obtain rfl := Option.some.inj h; refine ⟨_, ?_, fun _ _ _ _ => .bool _⟩; (simp [binOp, Op.intArith, Op.intCmp, Op.intBits]; done))
        | (by_cases h0 : y = 0
           · rw [if_pos h0] at h; cases h
           · rw [if_neg h0] at h; obtain rfl := Option.some.inj h
             refine ⟨_, ?_, fun _ _ _ _ => .int _ _⟩
             simp [binOp, Op.intDiv, h0])
        | cases h
        | (exact (h1 rfl).elim)
        | (exact (h2 rfl).elim)
    · cases op <;> simp only [evInt, if_neg hk] at h <;> first | cases h | exact (h1 rfl).elim | exact (h2 rfl).elim
theorem run_evStr {op : BinOp} {x y : ByteArray} {v : AV} (h : evStr op x y = some v) (t : Nat) (w : World) : ∃ z, (binOp op t (.string x) (.string y)).run P w = .ok z w ∧ ∀ w g k t, VRel w g k t v z := by
  cases op <;> simp only [evStr] at h
  all_goals first
    | (obtain rfl := Option.some.inj h; exact ⟨_, rfl, fun _ _ _ _ => .bool _⟩)
    | (by_cases h0 : ((x.size + y.size : Nat) : Int) ≤ 9223372036854775807
       · rw [if_pos h0] at h; obtain rfl := Option.some.inj h
         refine ⟨.string (x ++ y), ?_, fun _ _ _ _ => .str _⟩
         have h0' : ¬ ((x.size + y.size : Nat) : Int) > 9223372036854775807 := by omega
         simp only [binOp, Op.stringOp]
         rw [if_neg (by exact h0')]; rfl
       · rw [if_neg h0] at h; cases h)
    | cases h
theorem run_evBool {op : BinOp} {x y : Bool} {v : AV} (h : evBool op x y = some v) {t : Nat} (ht : P.underlying t = some .bool) (w : World) : ∃ z, (binOp op t (.bool x) (.bool y)).run P w = .ok z w ∧ ∀ w g k t, VRel w g k t v z := by
  have he : ∀ w, (Op.equal t (.bool x) (.bool y)).run P w = .ok (x == y) w := fun w => by
    unfold Op.equal Op.maxDepth; exact run_equalIn_bool' w 9999 t x y ht
  unfold evBool at h
  split at h
  · obtain rfl := Option.some.inj h
    exact ⟨_, by simp only [binOp, Sem.run_bind, he]; rfl, fun _ _ _ _ => .bool _⟩
  · obtain rfl := Option.some.inj h
    exact ⟨_, by simp only [binOp, Sem.run_bind, he]; rfl, fun _ _ _ _ => .bool _⟩
  · cases h

theorem run_eqGuard_one (op : BinOp) (t : Nat) (x y : Operand) (u v : Value) (hu : u.oneCell' = true) (hn : u ≠ .nilIface) (w : World) : (eqGuard op t x y u v).run P w = .ok () w := by
  cases u <;> first | (simp at hn; done) | (simp [Value.oneCell'] at hu; done) | (cases op <;> simp [eqGuard])

theorem guard_int (op : BinOp) (t : Nat) (x y : Operand) (k : IntKind) (i : Int) (v : Value) (w : World) : (eqGuard op t x y (.int k i) v).run P w = .ok () w := run_eqGuard_one op t x y _ v rfl (by simp) w
theorem guard_str (op : BinOp) (t : Nat) (x y : Operand) (s : ByteArray) (v : Value) (w : World) : (eqGuard op t x y (.string s) v).run P w = .ok () w := run_eqGuard_one op t x y _ v rfl (by simp) w
theorem guard_bool (op : BinOp) (t : Nat) (x y : Operand) (b : Bool) (v : Value) (w : World) : (eqGuard op t x y (.bool b) v).run P w = .ok () w := run_eqGuard_one op t x y _ v rfl (by simp) w
theorem ps_bin (h : St E n σ a w g) {op : BinOp} {t u : Nat} {x y : Operand} {x' y' : Opd} (hx : cOpd P t x = some x') (hy : cOpd P u y = some y') (hv : σ.pure (.bin op x' y') = some v) :
    Runs P a w g ⟨dst, .binOp op t x y u, type, pos, after, guard⟩ v := by
  simp only [State.pure] at hv
  split at hv
  · rename_i u1 u2 h1 h2
    have r1 := ev_rel h hx h1 0 0
    have r2 := ev_rel h hy h2 0 0
    unfold evBin at hv
    split at hv
    · have e1 := r1.c_inv.int_inv; have e2 := r2.c_inv.int_inv
      obtain ⟨z, hz, hr⟩ := run_evInt (P := P) hv t w
      exact ⟨z, by simp [execOp, e1, e2, guard_int, guard_str, guard_bool, hz], fun k t => hr _ _ _ _⟩
    · have e1 := r1.c_inv.str_inv; have e2 := r2.c_inv.str_inv
      obtain ⟨z, hz, hr⟩ := run_evStr (P := P) hv t w
      exact ⟨z, by simp [execOp, e1, e2, guard_int, guard_str, guard_bool, hz], fun k t => hr _ _ _ _⟩
    · cases hv
  · cases hv
theorem ps_binb (h : St E n σ a w g) {op : BinOp} {t u : Nat} {x y : Operand} {x' y' : Opd} (hx : cOpd P t x = some x') (hy : cOpd P u y = some y') (ht : P.underlying t = some .bool) (hv : σ.pure (.binb op x' y') = some v) :
    Runs P a w g ⟨dst, .binOp op t x y u, type, pos, after, guard⟩ v := by
  simp only [State.pure] at hv
  split at hv
  · rename_i b1 b2 h1 h2
    have e1 := (ev_rel h hx h1 0 0).c_inv.bool_inv
    have e2 := (ev_rel h hy h2 0 0).c_inv.bool_inv
    obtain ⟨z, hz, hr⟩ := run_evBool (P := P) hv ht w
    exact ⟨z, by simp [execOp, e1, e2, guard_int, guard_str, guard_bool, hz], fun k t => hr _ _ _ _⟩
  · cases hv


theorem ps_not (h : St E n σ a w g) {t tx : Nat} {x : Operand} {x' : Opd} (hx : cOpd P tx x = some x') (hv : σ.pure (.not x') = some v) : Runs P a w g ⟨dst, .unOp .not t x, type, pos, after, guard⟩ v := by
  simp only [State.pure] at hv
  split at hv
  · rename_i b hb
    obtain rfl := Option.some.inj hv
    have e := (ev_rel h hx hb 0 0).c_inv.bool_inv
    exact ⟨.bool !b, by simp [execOp, Op.unary, e], fun k t => .bool _⟩
  · cases hv
theorem ps_neg (h : St E n σ a w g) {t tx : Nat} {x : Operand} {x' : Opd} (hx : cOpd P tx x = some x') (hv : σ.pure (.neg x') = some v) : Runs P a w g ⟨dst, .unOp .neg t x, type, pos, after, guard⟩ v := by
  simp only [State.pure] at hv
  split at hv
  · rename_i k m hb
    obtain rfl := Option.some.inj hv
    have e := (ev_rel h hx hb 0 0).c_inv.int_inv
    exact ⟨.int k (k.wrap (0 - m)), by simp [execOp, Op.unary, e, Op.intArith], fun k t => .int _ _⟩
  · cases hv
theorem ps_toInt (h : St E n σ a w g) {src d : Nat} {ks k : IntKind} {x : Operand} {x' : Opd} (hs : P.underlying src = some (.int ks)) (hd : P.underlying d = some (.int k)) (hx : cOpd P src x = some x') (hv : σ.pure (.toInt k x') = some v) :
    Runs P a w g ⟨dst, .convert src d x, type, pos, after, guard⟩ v := by
  simp only [State.pure] at hv
  split at hv
  · rename_i k' m hb
    obtain rfl := Option.some.inj hv
    have e := (ev_rel h hx hb 0 0).c_inv.int_inv
    exact ⟨.int k (k.wrap m), by simp [execOp, convert, e, run_underlying hs, run_underlying hd, Conv.intToInt], fun k t => .int _ _⟩
  · cases hv
  · cases hv
theorem ps_str2 (h : St E n σ a w g) {src d : Nat} {x : Operand} {x' : Opd} (hs : P.underlying src = some .string) (hd : P.underlying d = some .string) (hx : cOpd P src x = some x') {s : ByteArray} (hv : σ.ev x' = some (.c (.str s))) :
    Runs P a w g ⟨dst, .convert src d x, type, pos, after, guard⟩ (.c (.str s)) := by
  have e := (ev_rel h hx hv 0 0).c_inv.str_inv
  exact ⟨.string s, by simp [execOp, convert, e, run_underlying hs, run_underlying hd], fun k t => .str _⟩
theorem foldl_push (ns : List Int) (l : List UInt8) (hl : ns.map (fun z => UInt8.ofNat z.toNat) = l) (r : ByteArray) : ns.foldl (fun r n => r.push (UInt8.ofNat n.toNat)) r = ⟨(r.data.toList ++ l).toArray⟩ := by
  subst hl
  induction ns generalizing r with
  | nil => simp
  | cons z zs ih =>
    simp only [List.foldl_cons, List.map_cons]
    rw [ih]
    simp [ByteArray.push]
theorem ps_b2s (h : St E n σ a w g) {src d e : Nat} {x : Operand} {x' : Opd} (hs : P.underlying src = some (.slice e)) (he : P.underlying e = some (.int .u8)) (hd : P.underlying d = some .string) (hx : cOpd P src x = some x') (hv : σ.pure (.b2s x') = some v) :
    Runs P a w g ⟨dst, .convert src d x, type, pos, after, guard⟩ v := by
  simp only [State.pure] at hv
  split at hv
  · rename_i lv xs hb
    obtain ⟨l, hl, rfl⟩ := Option.map_eq_some_iff.1 hv
    obtain ⟨A, c, hA, h1, h2, h3⟩ := bytes_rel (ev_rel h hx hb 0 0).c_inv.list_inv hl
    by_cases hn : xs = []
    · subst hn
      have hl0 : l = [] := by simpa [bytesOf] using hl.symm
      subst hl0
      refine ⟨.string ⟨#[]⟩, ?_, fun k t => .str _⟩
      cases A with
      | none => simp [execOp, convert, hA, run_underlying hs, run_underlying hd, run_underlying he, Conv.bytesToString]; rfl
      | some ad =>
        have := run_bytesToString (P := P) w ad 0 c [] (by simp [loadCells, loadCellsFrom])
        simp [execOp, convert, hA, run_underlying hs, run_underlying hd, run_underlying he, this]; rfl
    · obtain ⟨b, o, rfl⟩ := h3 hn
      have hz : ∀ i, i < l.length → ∃ z : Int, w.cell? ⟨b, o + i, none⟩ = some (.int .u8 z) ∧ UInt8.ofNat z.toNat = l.getD i 0 := fun i hi => by
        obtain ⟨z, h4, h5⟩ := h2 b o rfl i (l[i]) (List.getElem?_eq_getElem hi)
        exact ⟨z, h4, by simpa [List.getD_eq_getElem?_getD, List.getElem?_eq_getElem hi] using h5⟩
      let zf : Nat → Int := fun i => if hi : i < l.length then (hz i hi).choose else 0
      have hzf : ∀ i, i < l.length → w.cell? ⟨b, o + i, none⟩ = some (.int .u8 (zf i)) ∧ UInt8.ofNat (zf i).toNat = l.getD i 0 := fun i hi => by
        have := (hz i hi).choose_spec
        simpa [zf, hi] using this
      have hload : (loadCells ⟨b, o, none⟩ xs.length).run P w = .ok (((List.range l.length).map zf).map (Value.int .u8)).toArray w := by
        have := run_loadCells_list (P := P) w ⟨b, o, none⟩ (((List.range l.length).map zf).map (Value.int .u8)) (fun j v hv => by
          simp only [List.map_map, List.getElem?_map] at hv
          obtain ⟨i, hi, rfl⟩ := Option.map_eq_some_iff.1 hv
          have hj : j < l.length := by have := (List.getElem?_eq_some_iff.1 hi).1; simpa using this
          rw [List.getElem?_range hj] at hi
          obtain rfl := Option.some.inj hi
          rw [Addr.add_lit]; exact (hzf j hj).1)
        simpa [h1] using this
      have hr := run_bytesToString (P := P) w ⟨b, o, none⟩ xs.length c _ hload
      have hfold := foldl_push ((List.range l.length).map zf) l (by
        apply List.ext_getElem
        · simp
        · intro i h6 h7
          have := (hzf i h7).2
          simpa [List.getD_eq_getElem?_getD, List.getElem?_eq_getElem h7] using this) ByteArray.empty
      rw [hfold] at hr
      refine ⟨.string ⟨l.toArray⟩, ?_, fun k t => .str _⟩
      simp [execOp, convert, hA, run_underlying hs, run_underlying hd, run_underlying he, hr]
  · cases hv
theorem ps_load (h : St E n σ a w g) {t tx : Nat} {r : Option Nat} {x : Operand} {x' : Opd} (ha : aggOf P t = some r) (hx : cOpd P tx x = some x') (hv : σ.pure (.load r x') = some v) : Runs P a w g ⟨dst, .load t x, type, pos, after, guard⟩ v := by
  simp only [State.pure] at hv
  split at hv
  · rename_i p hp
    obtain ⟨ad, y, hy, hl, hr⟩ := rd_sound h ha (ev_rel h hx hp 0 0) hv
    exact ⟨y, by simp [execOp, Instr.loadAt, hy, Instr.sureAddr, hl], hr⟩
  · cases hv
theorem ps_faddr (h : St E n σ a w g) {s f tx m : Nat} {fs : Array Field} {fd : Field} {x : Operand} {x' : Opd} (hs : P.underlying s = some (.struct fs)) (hf : fs[f]? = some fd) (hz : szOf P fd.type = some (m + 1)) (hx : cOpd P tx x = some x') (hv : σ.pure (.faddr fd.offset x') = some v) :
    Runs P a w g ⟨dst, .fieldAddr s x f, type, pos, after, guard⟩ v := by
  have hrun : ∀ b o, a.eval x = .pointer (some ⟨b, o, none⟩) → (execOp a.eval ⟨dst, .fieldAddr s x f, type, pos, after, guard⟩).run P w = .ok (.value (.pointer (some ⟨b, o + fd.offset, none⟩))) w := fun b o he => by
    simp [execOp, Instr.fieldAt, run_underlying hs, hf, he, Instr.sureAddr, fieldPlace, run_sizeOf hz, Addr.add_lit]
  simp only [State.pure] at hv
  split at hv
  · rename_i id o hp
    obtain rfl := Option.some.inj hv
    obtain ⟨h1, h2⟩ := (ev_rel h hx hp 0 0).c_inv.ptr_inv
    exact ⟨_, hrun _ _ h2, fun k t => .s (.c (.ptr h1))⟩
  · rename_i cs hp
    split at hv
    · rename_i hle
      obtain rfl := Option.some.inj hv
      have hr := (ev_rel h hx hp 0 0).c_inv
      generalize hx0 : a.eval x = x0 at hr
      cases hr with
      | pure hc => cases hc
      | eptr vs h1 h2 h3 =>
        refine ⟨_, hrun _ _ hx0, fun k t => .s (.c (.eptr (fun i => vs (fd.offset + i)) (by simp; omega) (fun i hi => ?_) (fun j c hc => ?_)))⟩
        · rw [Nat.add_assoc]; exact h2 _ (by simp at hi; omega)
        · exact h3 _ _ (by simpa using hc)
    · cases hv
  · rename_i id esz i o hp
    obtain rfl := Option.some.inj hv
    have hr := (ev_rel h hx hp 0 0).c_inv
    generalize hx0 : a.eval x = x0 at hr
    cases hr with
    | pure hc => cases hc
    | aptr h1 => exact ⟨_, hrun _ _ hx0, fun k t => by rw [Nat.add_assoc]; exact .s (.c (.aptr h1))⟩
  · cases hv
theorem ps_field (h : St E n σ a w g) {t f tx : Nat} {fs : Array Field} {fd : Field} {r : Option Nat} {x : Operand} {x' : Opd} (hs : P.underlying t = some (.struct fs)) (hf : fs[f]? = some fd) (ha : aggOf P fd.type = some r) (hx : cOpd P tx x = some x') (hv : σ.pure (.field fd.offset r x') = some v) :
    Runs P a w g ⟨dst, .field t x f, type, pos, after, guard⟩ v := by
  simp only [State.pure] at hv
  split at hv
  · rename_i cs hp
    obtain ⟨vs, hvs, h1, h2⟩ := (ev_rel h hx hp 0 0).agg_inv
    obtain ⟨y, hy, hr⟩ := takeC_part (P := P) (w' := w) h1 h2 ha hv
    exact ⟨y, by simp [execOp, Instr.field, run_underlying hs, hf, hvs, asAgg, hy], hr⟩
  · cases hv
end
end Go.AI

set_option linter.unusedVariables false
set_option linter.unusedSimpArgs false
namespace Go.AI
open Go Go.RowKit

section
variable {P : Program} {E : Entry} {n : Nat} {σ : State} {a : Act} {w : World} {g : Gh} {tk : List Nat} {v : AV}
  {dst : Option Nat} {type : Nat} {pos : String} {after : Array Edge} {guard : Option (Nat × Bool)} {iop : IOp}

theorem ps_iaddr (h : St E n σ a w g) {t e m tx ti : Nat} {x i : Operand} {x' i' : Opd} (hs : P.underlying t = some (.slice e)) (hz : szOf P e = some m) (hx : cOpd P tx x = some x') (hi : cOpd P ti i = some i') (hv : σ.pure (.iaddr m x' i') = some v) :
    Runs P a w g ⟨dst, .indexAddr t x i, type, pos, after, guard⟩ v := by
  simp only [State.pure] at hv
  split at hv
  · rename_i lv e' xs k j hp hj
    have ei := (ev_rel h hi hj 0 0).c_inv.int_inv
    by_cases h0 : 0 ≤ j
    · rw [if_pos h0] at hv
      split at hv
      · rename_i y hy
        by_cases hee : e' = m
        · rw [if_pos hee] at hv; subst hee
          obtain rfl := Option.some.inj hv
          have hr := (ev_rel h hx hp 0 0).c_inv.list_inv
          have hlt : j.toNat < xs.length := (List.getElem?_eq_some_iff.1 hy).1
          generalize hx0 : a.eval x = x0 at hr
          cases hr with
          | nil => simp at hlt
          | list _ _ _ b o _ c vs g1 g2 gn g3 g4 g5 g6 g7 =>
            subst gn
            have hjl : j < (xs.length : Int) := by omega
            refine ⟨.pointer (some ⟨b, o + j.toNat * e', none⟩), ?_, fun k t => .s (.c (.eptr (fun q => vs (j.toNat * e' + q)) ?_ (fun q hq => ?_) (fun q c hc => g7 _ _ hy _ _ hc)))⟩
            · simp [execOp, Instr.indexAt, ei, asIntOf, run_underlying hs, hx0, h0, hjl, run_sizeOf hz, Addr.add_lit]
            · have hyl : y.length = e' := g4 y (List.mem_of_getElem? hy)
              have : (j.toNat + 1) * e' ≤ xs.length * e' := Nat.mul_le_mul_right _ hlt
              rw [Nat.add_mul] at this
              omega
            · have hyl : y.length = e' := g4 y (List.mem_of_getElem? hy)
              rw [Nat.add_assoc]
              refine g6 _ ?_
              have : (j.toNat + 1) * e' ≤ xs.length * e' := Nat.mul_le_mul_right _ hlt
              rw [Nat.add_mul] at this
              omega
        · rw [if_neg hee] at hv; cases hv
      · cases hv
    · rw [if_neg h0] at hv; cases hv
  · rename_i id e' off len cc k j hp hj
    have ei := (ev_rel h hi hj 0 0).c_inv.int_inv
    by_cases hee : e' = m
    · rw [if_pos hee] at hv; subst hee
      by_cases h0 : 0 ≤ j
      · rw [if_pos h0] at hv
        by_cases hjl : j < len
        · rw [if_pos hjl] at hv
          obtain rfl := Option.some.inj hv
          have hr := (ev_rel h hx hp 0 0).c_inv
          generalize hx0 : a.eval x = x0 at hr
          cases hr with
          | pure hc => cases hc
          | sl h1 h2 h3 =>
            refine ⟨.pointer (some ⟨g.β id, (off + j.toNat) * e' + 0, none⟩), ?_, fun k t => .s (.c (.aptr h1))⟩
            simp [execOp, Instr.indexAt, ei, asIntOf, run_underlying hs, hx0, h0, hjl, run_sizeOf hz, Addr.add_lit, Nat.add_mul]
        · rw [if_neg hjl] at hv; cases hv
      · rw [if_neg h0] at hv; cases hv
    · rw [if_neg hee] at hv; cases hv
  · cases hv

theorem ps_aaddr (h : St E n σ a w g) {t e m len tx ti : Nat} {x i : Operand} {x' i' : Opd} (hs : P.underlying t = some (.array len e)) (hz : szOf P e = some m) (hx : cOpd P tx x = some x') (hi : cOpd P ti i = some i') (hv : σ.pure (.aaddr m len x' i') = some v) :
    Runs P a w g ⟨dst, .indexAddr t x i, type, pos, after, guard⟩ v := by
  have hrun : ∀ b o (k : IntKind) (j : Int), a.eval x = .pointer (some ⟨b, o, none⟩) → a.eval i = .int k j → 0 ≤ j → j < len → (execOp a.eval ⟨dst, .indexAddr t x i, type, pos, after, guard⟩).run P w = .ok (.value (.pointer (some ⟨b, o + j.toNat * m, none⟩))) w := fun b o k j he ei h0 hjl => by
    simp [execOp, Instr.indexAt, ei, asIntOf, run_underlying hs, he, Instr.sureAddr, h0, hjl, run_sizeOf hz, Addr.add_lit]
  simp only [State.pure] at hv
  split at hv
  · rename_i id o k j hp hj
    have ei := (ev_rel h hi hj 0 0).c_inv.int_inv
    split at hv
    · rename_i h0
      split at hv
      · rename_i hjl
        obtain rfl := Option.some.inj hv
        obtain ⟨h1, h2⟩ := (ev_rel h hx hp 0 0).c_inv.ptr_inv
        exact ⟨_, hrun _ _ _ _ h2 ei h0 hjl, fun k t => .s (.c (.ptr h1))⟩
      · cases hv
    · cases hv
  · rename_i cs k j hp hj
    have ei := (ev_rel h hi hj 0 0).c_inv.int_inv
    split at hv
    · rename_i h0
      split at hv
      · rename_i hjl
        split at hv
        · rename_i hle
          obtain rfl := Option.some.inj hv
          have hr := (ev_rel h hx hp 0 0).c_inv
          generalize hx0 : a.eval x = x0 at hr
          cases hr with
          | pure hc => cases hc
          | eptr vs h1 h2 h3 =>
            refine ⟨_, hrun _ _ _ _ hx0 ei h0 hjl, fun k t => .s (.c (.eptr (fun i => vs (j.toNat * m + i)) (by simp; omega) (fun i hi => ?_) (fun q c hc => ?_)))⟩
            · rw [Nat.add_assoc]; exact h2 _ (by simp at hi; omega)
            · exact h3 _ _ (by simpa using hc)
        · cases hv
      · cases hv
    · cases hv
  · cases hv

theorem ps_sidx (h : St E n σ a w g) {t tx ti : Nat} {x i : Operand} {x' i' : Opd} (hs : P.underlying t = some .string) (hx : cOpd P tx x = some x') (hi : cOpd P ti i = some i') (hv : σ.pure (.sidx x' i') = some v) :
    Runs P a w g ⟨dst, .index t x i, type, pos, after, guard⟩ v := by
  simp only [State.pure] at hv
  split at hv
  · rename_i s k j hp hj
    have ei := (ev_rel h hi hj 0 0).c_inv.int_inv
    have es := (ev_rel h hx hp 0 0).c_inv.str_inv
    split at hv
    · rename_i h0
      obtain ⟨b, hb, rfl⟩ := Option.map_eq_some_iff.1 hv
      refine ⟨.int .u8 b.toNat, ?_, fun k t => .int _ _⟩
      have hb' : s[j.toNat]? = some b := by
        obtain ⟨hlt, he⟩ := List.getElem?_eq_some_iff.1 hb
        have hlt' : j.toNat < s.size := by simpa using hlt
        rw [getElem?_pos s j.toNat hlt']
        simp at he
        exact congrArg some he
      simp [execOp, Instr.index, ei, es, asIntOf, run_underlying hs, h0, hb']
    · cases hv
  · cases hv

theorem ps_aidx (h : St E n σ a w g) {t e m len tx ti : Nat} {r : Option Nat} {x i : Operand} {x' i' : Opd} (hs : P.underlying t = some (.array len e)) (hz : szOf P e = some m) (ha : aggOf P e = some r) (hx : cOpd P tx x = some x') (hi : cOpd P ti i = some i') (hv : σ.pure (.aidx m len r x' i') = some v) :
    Runs P a w g ⟨dst, .index t x i, type, pos, after, guard⟩ v := by
  simp only [State.pure] at hv
  split at hv
  · rename_i cs k j hp hj
    have ei := (ev_rel h hi hj 0 0).c_inv.int_inv
    obtain ⟨vs, hvs, h1, h2⟩ := (ev_rel h hx hp 0 0).agg_inv
    split at hv
    · rename_i h0
      split at hv
      · rename_i hjl
        obtain ⟨y, hy, hr⟩ := takeC_part (P := P) (w' := w) h1 h2 ha hv
        exact ⟨y, by simp [execOp, Instr.index, ei, hvs, asIntOf, run_underlying hs, h0, hjl, run_sizeOf hz, hy], hr⟩
      · cases hv
    · cases hv
  · cases hv

theorem ps_extract (h : St E n σ a w g) {tx i : Nat} {x : Operand} {x' : Opd} (hx : cOpd P tx x = some x') (hv : σ.pure (.extract x' i) = some v) : Runs P a w g ⟨dst, .extract x i, type, pos, after, guard⟩ v := by
  simp only [State.pure] at hv
  split at hv
  · rename_i vs hp
    obtain ⟨us, hus, h1, h2⟩ := (ev_rel h hx hp 0 0).tup_inv
    have hany : ∀ (u : AV), vs[i]? = some u → ∃ y, us[i]? = some y ∧ SRel w g 0 0 i u y := fun u hu => by
      have hlt : i < us.size := by rw [← h1]; exact (List.getElem?_eq_some_iff.1 hu).1
      refine ⟨us[i], Array.getElem?_eq_getElem hlt, ?_⟩
      have := h2 i u hu
      simpa [Array.getD_eq_getD_getElem?, Array.getElem?_eq_getElem hlt] using this
    split at hv
    · rename_i c hc
      obtain rfl := Option.some.inj hv
      obtain ⟨y, hy, hr⟩ := hany _ hc
      exact ⟨y, by simp [execOp, Instr.extract, hus, hy], fun k t => .s hr.share⟩
    · rename_i cs hc
      obtain rfl := Option.some.inj hv
      obtain ⟨y, hy, hr⟩ := hany _ hc
      exact ⟨y, by simp [execOp, Instr.extract, hus, hy], fun k t => .s (SRel.share hr)⟩
    · cases hv
  · cases hv

theorem run_len {t m : Nat} {x : Operand} (hm : (Builtin.len_ #[t] type #[a.eval x]).run P w = .ok (.int .i64 m) w) : (execOp a.eval ⟨dst, .call { callee := .builtin .len, args := #[x], argTypes := #[t] }, type, pos, after, guard⟩).run P w = .ok (.value (.int .i64 m)) w := by
  simp [execOp, resolve, invoke, builtin, hm]
theorem ps_slen (h : St E n σ a w g) {t tx : Nat} {x : Operand} {x' : Opd} (hs : P.underlying t = some .string) (hx : cOpd P tx x = some x') (hv : σ.pure (.slen x') = some v) : Runs P a w g ⟨dst, .call { callee := .builtin .len, args := #[x], argTypes := #[t] }, type, pos, after, guard⟩ v := by
  simp only [State.pure] at hv
  split at hv
  · rename_i s hp
    obtain rfl := Option.some.inj hv
    have e := (ev_rel h hx hp 0 0).c_inv.str_inv
    exact ⟨_, run_len (by simp [Builtin.len_, run_underlying hs, e, goInt]), fun k t => .int _ _⟩
  · cases hv
theorem ps_llen (h : St E n σ a w g) {t e tx : Nat} {x : Operand} {x' : Opd} (hs : P.underlying t = some (.slice e)) (hx : cOpd P tx x = some x') (hv : σ.pure (.len x') = some v) : Runs P a w g ⟨dst, .call { callee := .builtin .len, args := #[x], argTypes := #[t] }, type, pos, after, guard⟩ v := by
  simp only [State.pure] at hv
  split at hv
  · rename_i lv e xs hp
    obtain rfl := Option.some.inj hv
    have hr := (ev_rel h hx hp 0 0).c_inv.list_inv
    refine ⟨_, run_len (m := xs.length) ?_, fun k t => .int _ _⟩
    generalize a.eval x = x0 at hr
    cases hr with
    | nil => simp [Builtin.len_, run_underlying hs, goInt]
    | list => subst_vars; simp [Builtin.len_, run_underlying hs, goInt]
  · rename_i id e off m cc hp
    obtain rfl := Option.some.inj hv
    have hr := (ev_rel h hx hp 0 0).c_inv
    refine ⟨_, run_len (m := m) ?_, fun k t => .int _ _⟩
    generalize a.eval x = x0 at hr
    cases hr with
    | pure hc => cases hc
    | sl => simp [Builtin.len_, run_underlying hs, goInt]
  · cases hv

theorem run_foldMx : ∀ {us : List AV} {xs : List Operand} {m r : Int} (k : IntKind), us.length = xs.length → (∀ (i : Nat) (u : AV), us[i]? = some u → ∃ x, xs[i]? = some x ∧ ∀ t, VRel w g 0 t u (a.eval x)) → foldMx m us = some r →
    ((xs.map a.eval).foldlM Builtin.max2 (Value.int k m)).run P w = .ok (.int k r) w := by
  intro us
  induction us with
  | nil => intro xs m r k hl hr hf; cases xs with
    | nil => simp [foldMx] at hf; subst hf; rfl
    | cons => simp at hl
  | cons u us ih => intro xs m r k hl hr hf; cases xs with
    | nil => simp at hl
    | cons x xs =>
      unfold foldMx at hf
      split at hf
      · rename_i e; cases e
      · rename_i k' b r' e
        injection e with e1 e2; subst e1; subst e2
        obtain ⟨x', hx', hr'⟩ := hr 0 _ rfl
        simp at hx'; subst hx'
        have e := (hr' 0).c_inv.int_inv
        simp only [List.map_cons, List.foldlM_cons, e, Builtin.max2, Sem.run_bind, Sem.run_pure, Result.andThen_ok]
        exact ih k (by simpa using hl) (fun i u hu => hr (i + 1) u hu) hf
      · cases hf
theorem run_foldMn : ∀ {us : List AV} {xs : List Operand} {m r : Int} (k : IntKind), us.length = xs.length → (∀ (i : Nat) (u : AV), us[i]? = some u → ∃ x, xs[i]? = some x ∧ ∀ t, VRel w g 0 t u (a.eval x)) → foldMn m us = some r →
    ((xs.map a.eval).foldlM Builtin.min2 (Value.int k m)).run P w = .ok (.int k r) w := by
  intro us
  induction us with
  | nil => intro xs m r k hl hr hf; cases xs with
    | nil => simp [foldMn] at hf; subst hf; rfl
    | cons => simp at hl
  | cons u us ih => intro xs m r k hl hr hf; cases xs with
    | nil => simp at hl
    | cons x xs =>
      unfold foldMn at hf
      split at hf
      · rename_i e; cases e
      · rename_i k' b r' e
        injection e with e1 e2; subst e1; subst e2
        obtain ⟨x', hx', hr'⟩ := hr 0 _ rfl
        simp at hx'; subst hx'
        have e := (hr' 0).c_inv.int_inv
        simp only [List.map_cons, List.foldlM_cons, e, Builtin.min2, Sem.run_bind, Sem.run_pure, Result.andThen_ok]
        exact ih k (by simpa using hl) (fun i u hu => hr (i + 1) u hu) hf
      · cases hf
theorem ps_mx (h : St E n σ a w g) {tys argTys : List Nat} {xs : List Operand} {xs' : List Opd} (hx : cOpds P tys xs = some xs') (hv : σ.pure (.mx xs') = some v) :
    Runs P a w g ⟨dst, .call { callee := .builtin .max, args := xs.toArray, argTypes := argTys.toArray }, type, pos, after, guard⟩ v := by
  simp only [State.pure] at hv
  split at hv
  · rename_i k m us hus
    obtain ⟨r, hr, rfl⟩ := Option.map_eq_some_iff.1 hv
    obtain ⟨h1, h2⟩ := evs_rel h hx hus 0
    cases xs with
    | nil => simp at h1
    | cons x xs =>
      obtain ⟨x0, hx0, hr0⟩ := h2 0 _ rfl
      simp at hx0; subst hx0
      have e := (hr0 0).c_inv.int_inv
      have := run_foldMx (P := P) (w := w) (g := g) (a := a) k (us := us) (xs := xs) (by simpa using h1) (fun i u hu => h2 (i + 1) u hu) hr
      exact ⟨.int k r, by simp [execOp, resolve, invoke, builtin, Builtin.max_, e, this], fun k t => .int _ _⟩
  · cases hv
theorem ps_mn (h : St E n σ a w g) {tys argTys : List Nat} {xs : List Operand} {xs' : List Opd} (hx : cOpds P tys xs = some xs') (hv : σ.pure (.mn xs') = some v) :
    Runs P a w g ⟨dst, .call { callee := .builtin .min, args := xs.toArray, argTypes := argTys.toArray }, type, pos, after, guard⟩ v := by
  simp only [State.pure] at hv
  split at hv
  · rename_i k m us hus
    obtain ⟨r, hr, rfl⟩ := Option.map_eq_some_iff.1 hv
    obtain ⟨h1, h2⟩ := evs_rel h hx hus 0
    cases xs with
    | nil => simp at h1
    | cons x xs =>
      obtain ⟨x0, hx0, hr0⟩ := h2 0 _ rfl
      simp at hx0; subst hx0
      have e := (hr0 0).c_inv.int_inv
      have := run_foldMn (P := P) (w := w) (g := g) (a := a) k (us := us) (xs := xs) (by simpa using h1) (fun i u hu => h2 (i + 1) u hu) hr
      exact ⟨.int k r, by simp [execOp, resolve, invoke, builtin, Builtin.min_, e, this], fun k t => .int _ _⟩
  · cases hv
end
end Go.AI

set_option linter.unusedVariables false
set_option linter.unusedSimpArgs false
namespace Go.AI
open Go Go.RowKit

section
variable {P : Program} {E : Entry} {n : Nat} {σ : State} {a : Act} {w : World} {g : Gh} {tk : List Nat} {v : AV}
  {dst : Option Nat} {type : Nat} {pos : String} {after : Array Edge} {guard : Option (Nat × Bool)} {iop : IOp}

theorem bound_rel (h : St E n σ a w g) {lo : Option Operand} {lo' : Option Opd} (hc : cOption P lo = some lo') {d : Nat} {l : Int} (hb : σ.bound d lo' = some l) : (lo = none ∧ l = d) ∨ ∃ x k, lo = some x ∧ a.eval x = .int k l := by
  unfold cOption at hc
  split at hc
  · obtain rfl := Option.some.inj hc
    exact .inl ⟨rfl, (Option.some.inj hb).symm⟩
  · rename_i x
    obtain ⟨y, hy, rfl⟩ := Option.map_eq_some_iff.1 hc
    simp only [State.bound] at hb
    split at hb
    · rename_i k m hm
      obtain rfl := Option.some.inj hb
      exact .inr ⟨x, k, rfl, (ev_rel h hy hm 0 0).c_inv.int_inv⟩
    · cases hb

theorem run_sliceBound (x : Value) (k : IntKind) (i : Int) (y : Nat) (c : BoundsCode) (hx : x = .int k i) (h0 : 0 ≤ i) (h1 : i ≤ y) : (Instr.sliceBound x y c).run P w = .ok i.toNat w := by
  subst hx; simp [Instr.sliceBound, asIntOf, h0, h1]

theorem run_bounds2 (lo hi : Option Operand) {l h : Int} {isS : Bool} {len cap : Nat} (hlo : (lo = none ∧ l = 0) ∨ ∃ x k, lo = some x ∧ a.eval x = .int k l) (hhi : (hi = none ∧ h = len) ∨ ∃ x k, hi = some x ∧ a.eval x = .int k h)
    (h0 : 0 ≤ l) (h1 : l ≤ h) (h2 : h ≤ cap) : (Instr.sliceBounds isS len cap (lo.map a.eval) (hi.map a.eval) none).run P w = .ok (l.toNat, h.toNat, cap) w := by
  rcases hlo with ⟨rfl, rfl⟩ | ⟨x, k, rfl, hx⟩ <;> rcases hhi with ⟨rfl, rfl⟩ | ⟨y, k', rfl, hy⟩
  · simp [Instr.sliceBounds]
  · simp [Instr.sliceBounds, run_sliceBound (P := P) (w := w) _ k' h cap _ hy (by omega) h2]
  · simp [Instr.sliceBounds, run_sliceBound (P := P) (w := w) _ k l len _ hx h0 h1]
  · have : l ≤ (h.toNat : Int) := by omega
    simp [Instr.sliceBounds, run_sliceBound (P := P) (w := w) _ k' h cap _ hy (by omega) h2, run_sliceBound (P := P) (w := w) _ k l h.toNat _ hx h0 this]

theorem run_bounds3 (lo : Option Operand) (hi mx : Operand) {l h m : Int} {isS : Bool} {len cap : Nat} (hlo : (lo = none ∧ l = 0) ∨ ∃ x k, lo = some x ∧ a.eval x = .int k l) (hhi : ∃ k, a.eval hi = .int k h) (hmx : ∃ k, a.eval mx = .int k m)
    (h0 : 0 ≤ l) (h1 : l ≤ h) (h2 : h ≤ m) (h3 : m ≤ cap) : (Instr.sliceBounds isS len cap (lo.map a.eval) (some (a.eval hi)) (some (a.eval mx))).run P w = .ok (l.toNat, h.toNat, m.toNat) w := by
  obtain ⟨k', hy⟩ := hhi
  obtain ⟨k'', hz⟩ := hmx
  have e1 : h ≤ (m.toNat : Int) := by omega
  have e2 : l ≤ (h.toNat : Int) := by omega
  rcases hlo with ⟨rfl, rfl⟩ | ⟨x, k, rfl, hx⟩
  · simp [Instr.sliceBounds, run_sliceBound (P := P) (w := w) _ k' h m.toNat _ hy (by omega) e1, run_sliceBound (P := P) (w := w) _ k'' m cap _ hz (by omega) h3]
  · simp [Instr.sliceBounds, run_sliceBound (P := P) (w := w) _ k' h m.toNat _ hy (by omega) e1, run_sliceBound (P := P) (w := w) _ k'' m cap _ hz (by omega) h3, run_sliceBound (P := P) (w := w) _ k l h.toNat _ hx h0 e2]

theorem ps_sstr (h : St E n σ a w g) {t tx : Nat} {x : Operand} {x' : Opd} {lo hi : Option Operand} {lo' hi' : Option Opd} (hs : P.underlying t = some .string) (hx : cOpd P tx x = some x') (hlo : cOption P lo = some lo') (hhi : cOption P hi = some hi') (hv : σ.pure (.sstr x' lo' hi') = some v) :
    Runs P a w g ⟨dst, .slice t x lo hi none, type, pos, after, guard⟩ v := by
  simp only [State.pure] at hv
  split at hv
  · rename_i s hp
    have es := (ev_rel h hx hp 0 0).c_inv.str_inv
    split at hv
    · rename_i l u hl hu
      split at hv
      · rename_i hb
        obtain rfl := Option.some.inj hv
        refine ⟨.string (s.extract l.toNat u.toNat), ?_, fun k t => .str _⟩
        have hr := run_bounds2 (P := P) (w := w) (a := a) lo hi (isS := false) (len := s.size) (cap := s.size) (bound_rel h hlo hl) (bound_rel h hhi hu) hb.1 hb.2.1 hb.2.2
        simp [execOp, Instr.sliceAt, Instr.slice, run_underlying hs, es, hr]
      · cases hv
    · cases hv
  · cases hv

theorem CRel.sub {L : Nat → Nat} {esz b o nn c : Nat} {xs : List (List AC)} {vs : Nat → Value} (g3 : xs.length ≤ c) (g4 : ∀ x ∈ xs, x.length = esz) (g5 : o + xs.length * esz ≤ L b) (g6 : ∀ i, i < xs.length * esz → w.cell? ⟨b, o + i, none⟩ = some (vs i))
    (g7 : ∀ i x, xs[i]? = some x → ∀ j a, x[j]? = some a → CRel w L a (vs (i * esz + j))) {l u m : Nat} (h1 : l ≤ u) (h2 : u ≤ xs.length) (h3 : u ≤ m) (lv : Nat) (hlv : lv ≤ 1) (hlm : lv = 1 → m = u) :
    CRel w L (.list lv esz ((xs.drop l).take (u - l))) (.slice (if m = l then some ⟨b, o, none⟩ else some (Addr.add ⟨b, o, none⟩ (l * esz))) (u - l) (m - l)) := by
  by_cases hm : m = l
  · have : u = l := by omega
    subst this; subst hm
    simp only [Nat.sub_self, List.take_zero]
    exact .nil lv esz _ _ hlv (by simp)
  · rw [if_neg hm, Addr.add_lit]
    have hlen : ((xs.drop l).take (u - l)).length = u - l := by simp; omega
    have hmul : l * esz + (u - l) * esz ≤ xs.length * esz := by rw [← Nat.add_mul]; exact Nat.mul_le_mul_right _ (by omega)
    refine .list lv esz _ b (o + l * esz) _ _ (fun i => vs (l * esz + i)) hlv (fun e => by rw [hlen, hlm e]) hlen.symm (by rw [hlen]; omega) (fun x hx => g4 x (List.mem_of_mem_drop (List.mem_of_mem_take hx))) (by rw [hlen]; omega) (fun i hi => ?_) (fun i x hx j a ha => ?_)
    · rw [hlen] at hi; rw [Nat.add_assoc]; exact g6 _ (by omega)
    · have hi : i < u - l := by have := (List.getElem?_eq_some_iff.1 hx).1; rw [hlen] at this; exact this
      rw [List.getElem?_take, if_pos hi, List.getElem?_drop] at hx
      have := g7 _ _ hx j a ha
      rw [← Nat.add_assoc, ← Nat.add_mul]; exact this

theorem ps_slst2 (h : St E n σ a w g) {t e m tx : Nat} {x : Operand} {x' : Opd} {lo hi : Option Operand} {lo' hi' : Option Opd} (hs : P.underlying t = some (.slice e)) (hz : szOf P e = some m) (hx : cOpd P tx x = some x') (hlo : cOption P lo = some lo') (hhi : cOption P hi = some hi') (hv : σ.pure (.slst m x' lo' hi' none) = some v) :
    Runs P a w g ⟨dst, .slice t x lo hi none, type, pos, after, guard⟩ v := by
  simp only [State.pure] at hv
  split at hv
  · rename_i lv e' xs hp
    have hr := (ev_rel h hx hp 0 0).c_inv.list_inv
    split at hv
    · rename_i l u hl hu
      split at hv
      · rename_i hb
        obtain ⟨hb0, hb1, hb2⟩ := hb
        split at hv
        · rename_i hee; subst hee
          obtain rfl := Option.some.inj hv
          have bl := bound_rel h hlo hl
          have bu := bound_rel h hhi hu
          generalize hx0 : a.eval x = x0 at hr
          cases hr with
          | nil _ _ A c g1 g2 =>
            have hl0 : l = 0 := by simp at hb2; omega
            have hu0 : u = 0 := by simp at hb2; omega
            subst hl0; subst hu0
            have hrun := run_bounds2 (P := P) (w := w) (a := a) lo hi (isS := true) (len := 0) (cap := c) bl bu (by omega) (by omega) (by omega)
            refine ⟨.slice (if c = 0 then A else A.map (·.add (0 * e'))) 0 c, ?_, fun k t => .s (.c (.pure ?_))⟩
            · simp [execOp, Instr.sliceAt, Instr.slice, run_underlying hs, hx0, hrun, run_sizeOf hz]
            · simpa using CRel.nil 0 e' _ c (by omega) (by simp)
          | list _ _ _ b o nn c vs g1 g2 gn g3 g4 g5 g6 g7 =>
            subst gn
            have hrun := run_bounds2 (P := P) (w := w) (a := a) lo hi (isS := true) (len := xs.length) (cap := c) bl bu hb0 hb1 (by omega)
            have hc := CRel.sub (w := w) (nn := 0) g3 g4 g5 g6 g7 (l := l.toNat) (u := u.toNat) (m := c) (by omega) (by omega) (by omega) 0 (by omega) (by simp)
            refine ⟨.slice (if c = l.toNat then some ⟨b, o, none⟩ else some (Addr.add ⟨b, o, none⟩ (l.toNat * e'))) (u.toNat - l.toNat) (c - l.toNat), ?_, fun k t => .s (.c (.pure hc))⟩
            simp [execOp, Instr.sliceAt, Instr.slice, run_underlying hs, hx0, hrun, run_sizeOf hz]
        · cases hv
      · cases hv
    · cases hv
  · rename_i id e' off len c hp
    have hr := (ev_rel h hx hp 0 0).c_inv
    split at hv
    · rename_i l u hl hu
      split at hv
      · rename_i hb
        obtain ⟨hb0, hb1, hb2⟩ := hb
        split at hv
        · rename_i hee; subst hee
          obtain rfl := Option.some.inj hv
          have bl := bound_rel h hlo hl
          have bu := bound_rel h hhi hu
          generalize hx0 : a.eval x = x0 at hr
          cases hr with
          | pure hc => cases hc
          | sl q1 q2 q3 =>
            have hrun := run_bounds2 (P := P) (w := w) (a := a) lo hi (isS := true) (len := len) (cap := c) bl bu hb0 hb1 (by omega)
            refine ⟨.slice (if c = l.toNat then some ⟨g.β id, off * e', none⟩ else some (Addr.add ⟨g.β id, off * e', none⟩ (l.toNat * e'))) (u.toNat - l.toNat) (c - l.toNat), ?_, fun k t => .s (.c ?_)⟩
            · simp [execOp, Instr.sliceAt, Instr.slice, run_underlying hs, hx0, hrun, run_sizeOf hz]
            · by_cases hc : c = l.toNat
              · rw [if_pos hc, if_pos hc]
                have e1 : u.toNat - l.toNat = 0 := by omega
                have e2 : c - l.toNat = 0 := by omega
                rw [e1, e2]
                exact .pure (.nil 1 e' _ 0 (by omega) (by simp))
              · rw [if_neg hc, if_neg hc, Addr.add_lit, ← Nat.add_mul]
                exact .sl q1 (by omega) (by omega)
        · cases hv
      · cases hv
    · cases hv
  · cases hv

theorem ps_slst3 (h : St E n σ a w g) {t e m tx : Nat} {x hi mx : Operand} {x' hi' mx' : Opd} {lo : Option Operand} {lo' : Option Opd} (hs : P.underlying t = some (.slice e)) (hz : szOf P e = some m) (hx : cOpd P tx x = some x') (hlo : cOption P lo = some lo')
    (hhi : cOption P (some hi) = some (some hi')) (hmx : cOption P (some mx) = some (some mx')) (hv : σ.pure (.slst m x' lo' (some hi') (some mx')) = some v) : Runs P a w g ⟨dst, .slice t x lo (some hi) (some mx), type, pos, after, guard⟩ v := by
  simp only [State.pure] at hv
  split at hv
  · rename_i lv e' xs hp
    have hr := (ev_rel h hx hp 0 0).c_inv.list_inv
    split at hv
    · rename_i l u mm hl hu hm
      split at hv
      · rename_i hb
        obtain ⟨hb0, hb1, hb2, hb3⟩ := hb
        split at hv
        · rename_i hee; subst hee
          obtain rfl := Option.some.inj hv
          have bl := bound_rel h hlo hl
          have bu : ∃ k, a.eval hi = .int k u := by
            rcases bound_rel h hhi hu with ⟨h1, _⟩ | ⟨x, k, h1, h2⟩
            · cases h1
            · injection h1 with h1; subst h1; exact ⟨k, h2⟩
          have bm : ∃ k, a.eval mx = .int k mm := by
            rcases bound_rel h hmx hm with ⟨h1, _⟩ | ⟨x, k, h1, h2⟩
            · cases h1
            · injection h1 with h1; subst h1; exact ⟨k, h2⟩
          generalize hx0 : a.eval x = x0 at hr
          cases hr with
          | nil _ _ A c g1 g2 =>
            have hl0 : l = 0 := by simp at hb3; omega
            have hu0 : u = 0 := by simp at hb3; omega
            have hm0 : mm = 0 := by omega
            subst hl0; subst hu0; subst hm0
            have hrun := run_bounds3 (P := P) (w := w) (a := a) lo hi mx (isS := true) (len := 0) (cap := c) bl bu bm (by omega) (by omega) (by omega) (by omega)
            refine ⟨.slice A 0 0, ?_, fun k t => .s (.c (.pure ?_))⟩
            · simp [execOp, Instr.sliceAt, Instr.slice, run_underlying hs, hx0, hrun, run_sizeOf hz]
            · simpa using CRel.nil 1 e' A 0 (by omega) (by simp)
          | list _ _ _ b o nn c vs g1 g2 gn g3 g4 g5 g6 g7 =>
            subst gn
            have hrun := run_bounds3 (P := P) (w := w) (a := a) lo hi mx (isS := true) (len := xs.length) (cap := c) bl bu bm hb0 hb1 (by omega) (by omega)
            have hc := CRel.sub (w := w) (nn := 0) g3 g4 g5 g6 g7 (l := l.toNat) (u := u.toNat) (m := mm.toNat) (by omega) (by omega) (by omega) 1 (by omega) (by omega)
            refine ⟨.slice (if mm.toNat = l.toNat then some ⟨b, o, none⟩ else some (Addr.add ⟨b, o, none⟩ (l.toNat * e'))) (u.toNat - l.toNat) (mm.toNat - l.toNat), ?_, fun k t => .s (.c (.pure hc))⟩
            simp [execOp, Instr.sliceAt, Instr.slice, run_underlying hs, hx0, hrun, run_sizeOf hz]
        · cases hv
      · cases hv
    · cases hv
  · cases hv

theorem ps_s2a (h : St E n σ a w g) {t e m tx : Nat} {x : Operand} {x' : Opd} (hs : P.underlying t = some (.array m e)) (hx : cOpd P tx x = some x') (hv : σ.pure (.s2a m x') = some v) : Runs P a w g ⟨dst, .sliceToArrayPointer t x, type, pos, after, guard⟩ v := by
  simp only [State.pure] at hv
  split at hv
  · rename_i lv xs hp
    have hr := (ev_rel h hx hp 0 0).c_inv.list_inv
    split at hv
    · rename_i hb
      obtain rfl := Option.some.inj hv
      generalize hx0 : a.eval x = x0 at hr
      cases hr with
      | nil => simp at hb; omega
      | list _ _ _ b o nn c vs g1 g2 gn g3 g4 g5 g6 g7 =>
        subst gn
        have hfl := flat_len g4
        refine ⟨.pointer (some ⟨b, o, none⟩), ?_, fun k t => .s (.c (.eptr vs (by rw [hfl]; exact g5) (fun i hi => g6 i (by rwa [hfl] at hi)) (fun j c hc => ?_)))⟩
        · have : ¬ xs.length < m := by omega
          simp [execOp, Instr.arrayAt, run_underlying hs, hx0, this]
        · have hj : j < xs.length := by have := (List.getElem?_eq_some_iff.1 hc).1; rw [hfl] at this; omega
          have hy : xs[j]? = some xs[j] := List.getElem?_eq_getElem hj
          have hl1 : xs[j].length = 1 := g4 _ (List.getElem_mem hj)
          obtain ⟨d, hd⟩ : ∃ d, xs[j] = [d] := List.length_eq_one_iff.1 hl1
          have h0 : xs[j][0]? = some d := by rw [hd]; rfl
          have := (flat_at g4 hy h0).2
          rw [Nat.mul_one, Nat.add_zero, hc] at this
          obtain rfl := Option.some.inj this
          have := g7 j _ hy 0 _ h0
          rwa [Nat.mul_one, Nat.add_zero] at this
    · cases hv
  · cases hv

theorem caps_rel : ∀ {vs : List AV} {cs : List AC}, State.pure.capsOf vs = some cs → cs.length = vs.length ∧ ∀ (i : Nat) (c : AC), cs[i]? = some c → ∃ d, vs[i]? = some (AV.c d) ∧ c = d.share := by
  intro vs
  induction vs with
  | nil => intro cs h; simp [State.pure.capsOf] at h; subst h; simp
  | cons v vs ih =>
    intro cs h
    cases v with
    | c a =>
      simp only [State.pure.capsOf] at h
      obtain ⟨r, hr, rfl⟩ := Option.map_eq_some_iff.1 h
      obtain ⟨h1, h2⟩ := ih hr
      refine ⟨by simp [h1], fun i c hi => ?_⟩
      cases i with
      | zero => simp at hi; exact ⟨a, by simp, hi.symm⟩
      | succ i => simpa using h2 i c (by simpa using hi)
    | agg => simp [State.pure.capsOf] at h
    | tup => simp [State.pure.capsOf] at h

theorem ev_share (h : St E n σ a w g) {ty : Nat} {x : Operand} {y : Opd} (hc : cOpd P ty x = some y) {u : AC} (hu : σ.ev y = some (.c u)) : u.share = u := by
  unfold cOpd at hc
  split at hc
  · obtain rfl := Option.some.inj hc
    obtain ⟨v, hv, hv'⟩ := Option.map_eq_some_iff.1 hu
    cases v with
    | c b => 
      simp only [AV.share, AV.c.injEq] at hv'; subst hv'
      exact AC.share_share b
    | agg => simp [AV.share] at hv'
    | tup => simp [AV.share] at hv'
  · obtain ⟨v, hv, rfl⟩ := Option.map_eq_some_iff.1 hc
    obtain rfl := Option.some.inj hu
    have := (cVal_rel hv w g 0 0).2
    simpa [AV.share] using this
  · obtain rfl := Option.some.inj hc
    injection hu with hu; injection hu with hu; subst hu; rfl
  · cases hc

theorem ps_mkfn (h : St E n σ a w g) {f : Nat} {first caps : Array Operand} {tys : List Nat} {caps' : List Opd} (hf : first.size = 0) (hc : cOpds P tys caps.toList = some caps') (hv : σ.pure (.mkfn f caps') = some v) :
    Runs P a w g ⟨dst, .makeFunc (.func f) first caps, type, pos, after, guard⟩ v := by
  simp only [State.pure] at hv
  split at hv
  · rename_i us hus
    obtain ⟨cs, hcs, rfl⟩ := Option.map_eq_some_iff.1 hv
    obtain ⟨h1, h2⟩ := caps_rel hcs
    obtain ⟨h3, h4⟩ := evs_rel h hc hus 0
    have hf0 : first = #[] := Array.eq_empty_of_size_eq_zero hf
    subst hf0
    refine ⟨.func (.func f) #[] (caps.map a.eval), by simp [execOp, Instr.makeFunc], fun k t => .s (.c (.fn _ (by rw [h1, h3]; simp) (fun c hc => ?_) (fun j c hj => ?_)))⟩
    · obtain ⟨i, hi⟩ := List.getElem?_of_mem hc
      obtain ⟨d, _, rfl⟩ := h2 i c hi
      exact AC.share_share d
    · obtain ⟨d, hd, rfl⟩ := h2 j c hj
      obtain ⟨x, hx, hr⟩ := h4 j _ hd
      have : (caps.map a.eval).getD j undef = a.eval x := by
        have hx' : caps[j]? = some x := by simpa using hx
        simp [Array.getD_eq_getD_getElem?, hx']
      rw [this]; exact (hr 0).c_inv.share
  · cases hv
end
end Go.AI

set_option linter.unusedVariables false
set_option linter.unusedSimpArgs false
namespace Go.AI
open Go Go.RowKit

theorem zeroOk_rel (w : World) (g : Gh) (p : Place) : ∀ {cs : List AC} {vs : List Value}, zeroOk cs vs = true → cs.length = vs.length ∧ ∀ j a, cs[j]? = some a → XRel w g p a (vs.getD j undef) ∧ a.share = a := by
  intro cs
  induction cs with
  | nil => intro vs h; cases vs with
    | nil => simp
    | cons => simp [zeroOk] at h
  | cons c cs ih =>
    intro vs h
    obtain ⟨v, vs', rfl, h1, h2, h3⟩ : ∃ v vs', vs = v :: vs' ∧ XRel w g p c v ∧ c.share = c ∧ zeroOk cs vs' = true := by
      unfold zeroOk at h
      split at h
      · simp_all
      · rename_i e1; obtain ⟨rfl, rfl⟩ := e1
        simp only [Bool.and_eq_true, beq_iff_eq] at h
        obtain ⟨⟨rfl, rfl⟩, h⟩ := h
        exact ⟨_, _, rfl, .pure (.int _ _), rfl, h⟩
      · rename_i e1; obtain ⟨rfl, rfl⟩ := e1
        simp only [Bool.and_eq_true, beq_iff_eq] at h
        obtain ⟨rfl, h⟩ := h
        exact ⟨_, _, rfl, .pure (.bool _), rfl, h⟩
      · rename_i s as s' vs' e1; obtain ⟨rfl, rfl⟩ := e1
        simp only [Bool.and_eq_true, beq_iff_eq] at h
        obtain ⟨⟨hs, hs'⟩, h⟩ := h
        have : s = s' := by
          obtain ⟨⟨l⟩⟩ := s
          obtain ⟨⟨l'⟩⟩ := s'
          have h1 : l = [] := List.eq_nil_of_length_eq_zero hs
          have h2 : l' = [] := List.eq_nil_of_length_eq_zero hs'
          subst h1; subst h2; rfl
        subst this
        exact ⟨_, _, rfl, .pure (.str _), rfl, h⟩
      · rename_i e1; obtain ⟨rfl, rfl⟩ := e1
        exact ⟨_, _, rfl, .pure (.nil 1 _ none 0 (by omega) (by simp)), rfl, h⟩
      · rename_i e1; obtain ⟨rfl, rfl⟩ := e1
        exact ⟨_, _, rfl, .nilp, rfl, h⟩
      · rename_i e1; obtain ⟨rfl, rfl⟩ := e1
        exact ⟨_, _, rfl, .nilfn, rfl, h⟩
      · cases h
    obtain ⟨h4, h5⟩ := ih h3
    refine ⟨by simp [h4], fun j a ha => ?_⟩
    cases j with
    | zero => simp at ha; subst ha; exact ⟨by simpa using h1, h2⟩
    | succ j => simpa using h5 j a (by simpa using ha)

theorem zeroOf_rel {P : Program} {t : Nat} {cs : List AC} (h : zeroOf P t = some cs) : ∃ z i, P.info? t = some i ∧ i.zero = some z ∧ i.size = cs.length ∧ z.cells.size = cs.length ∧ (∀ w, (zeroValue t).run P w = .ok z w) ∧
    ∀ w g p j a, cs[j]? = some a → XRel w g p a (z.cells.getD j undef) ∧ a.share = a := by
  unfold zeroOf at h
  split at h
  · rename_i cs' z h1 h2
    split at h
    · rename_i h3
      obtain rfl := Option.some.inj h
      simp only [Bool.and_eq_true, beq_iff_eq] at h3
      obtain ⟨⟨h4, h5⟩, h6⟩ := h3
      obtain ⟨i, hi, hz⟩ := Option.bind_eq_some_iff.1 h2
      unfold szOf at h6
      rw [hi] at h6
      refine ⟨z, i, hi, hz, by simpa using h6, h5.symm, fun w => by simp [zeroValue, typeInfo, hi, hz], fun w g p j a ha => ?_⟩
      have := (zeroOk_rel w g p h4).2 j a ha
      simpa [Array.getD_eq_getD_getElem?, List.getD_eq_getElem?_getD] using this
    · cases h
  · cases h

/-- Cells over cells. -/
def CsRel (w : World) (g : Gh) (cs : List AC) (vs : Array Value) : Prop := cs.length = vs.size ∧ ∀ j a, cs[j]? = some a → ∀ q, XRel w g q a (vs.getD j undef)

theorem foldl_set (us : List Value) (off : Nat) : ∀ (k : Nat) (vs : Array Value), ((us.zipIdx k).foldl (fun (cs : Array Value) (p : Value × Nat) => cs.setIfInBounds (off + p.2) p.1) vs).size = vs.size ∧
    ∀ q, ((us.zipIdx k).foldl (fun (cs : Array Value) (p : Value × Nat) => cs.setIfInBounds (off + p.2) p.1) vs)[q]? = if off + k ≤ q ∧ q < off + k + us.length ∧ q < vs.size then us[q - off - k]? else vs[q]? := by
  induction us with
  | nil => intro k vs; simp; intro q h1 h2; omega
  | cons u us ih =>
    intro k vs
    simp only [List.zipIdx_cons, List.foldl_cons]
    obtain ⟨h1, h2⟩ := ih (k + 1) (vs.setIfInBounds (off + k) u)
    refine ⟨by rw [h1]; simp, fun q => ?_⟩
    rw [h2 q]
    simp only [Array.size_setIfInBounds, List.length_cons, Array.getElem?_setIfInBounds]
    by_cases c1 : off + (k + 1) ≤ q ∧ q < off + (k + 1) + us.length ∧ q < vs.size
    · rw [if_pos c1, if_pos (by omega)]
      obtain ⟨d, hd⟩ : ∃ d, q - off - k = d + 1 := ⟨q - off - k - 1, by omega⟩
      rw [hd, List.getElem?_cons_succ]
      congr 1; omega
    · rw [if_neg c1]
      by_cases c2 : off + k = q
      · subst c2
        by_cases c3 : off + k < vs.size
        · simp [c3]
        · have : ¬ (off + k ≤ off + k ∧ off + k < off + k + (us.length + 1) ∧ off + k < vs.size) := by omega
          rw [if_neg this]
          simp [c3]
      · rw [if_neg c2, if_neg (by omega)]

section
variable {P : Program} {E : Entry} {n : Nat} {σ : State} {a : Act} {w : World} {g : Gh} {tk : List Nat} {v : AV}
  {dst : Option Nat} {type : Nat} {pos : String} {after : Array Edge} {guard : Option (Nat × Bool)} {iop : IOp}

theorem place_cells {us : List AC} {cs : List AC} {vs : Array Value} {ws : Array Value} {off : Nat} (hcs : CsRel w g cs vs) (hl : us.length = ws.size) (hu : ∀ j c, us[j]? = some c → ∀ q, XRel w g q c (ws.getD j undef)) (hle : off + us.length ≤ cs.length) :
    CsRel w g (cs.take off ++ us ++ cs.drop (off + us.length)) (ws.zipIdx.foldl (fun (cs : Array Value) (p : Value × Nat) => cs.setIfInBounds (off + p.2) p.1) vs) := by
  obtain ⟨h1, h2⟩ := hcs
  have hf : ws.zipIdx.foldl (fun (cs : Array Value) (p : Value × Nat) => cs.setIfInBounds (off + p.2) p.1) vs = (ws.toList.zipIdx 0).foldl (fun (cs : Array Value) (p : Value × Nat) => cs.setIfInBounds (off + p.2) p.1) vs := by
    rw [← Array.foldl_toList]; congr 1; simp
  obtain ⟨h3, h4⟩ := foldl_set ws.toList off 0 vs
  rw [hf]
  refine ⟨by rw [h3]; simp only [List.length_append, List.length_take, List.length_drop]; omega, fun j c hj p => ?_⟩
  have hlt : j < cs.length := by have := (List.getElem?_eq_some_iff.1 hj).1; simp only [List.length_append, List.length_take, List.length_drop] at this; omega
  have hq := h4 j
  simp only [Array.length_toList, Nat.add_zero] at hq
  by_cases c1 : off ≤ j ∧ j < off + us.length
  · rw [if_pos (by omega)] at hq
    have hc : us[j - off]? = some c := by
      rw [List.getElem?_append_left (by simp; omega), List.getElem?_append_right (by simp; omega)] at hj
      simpa [List.length_take, Nat.min_eq_left (show off ≤ cs.length by omega)] using hj
    have := hu _ c hc p
    have he : ((ws.toList.zipIdx 0).foldl (fun (cs : Array Value) (p : Value × Nat) => cs.setIfInBounds (off + p.2) p.1) vs).getD j undef = ws.getD (j - off) undef := by
      simp only [Array.getD_eq_getD_getElem?, hq]
      simp
    rw [he]; exact this
  · rw [if_neg (by omega)] at hq
    have hc : cs[j]? = some c := by
      by_cases c2 : j < off
      · rw [List.append_assoc, List.getElem?_append_left (by simp; omega), List.getElem?_take, if_pos c2] at hj; exact hj
      · rw [List.getElem?_append_right (by simp; omega)] at hj
        simp only [List.length_append, List.length_take, List.getElem?_drop] at hj
        rw [show off + us.length + (j - (min off cs.length + us.length)) = j by omega] at hj
        exact hj
    have he : ((ws.toList.zipIdx 0).foldl (fun (cs : Array Value) (p : Value × Nat) => cs.setIfInBounds (off + p.2) p.1) vs).getD j undef = vs.getD j undef := by
      simp only [Array.getD_eq_getD_getElem?, hq]
    rw [he]; exact h2 j c hc p

theorem fill_size {place : Nat → Option (Nat × Nat)} : ∀ {parts : List (Nat × Value)} {vs vs' : Array Value}, Instr.fill place vs parts = some vs' → vs'.size = vs.size := by
  intro parts
  induction parts with
  | nil => intro vs vs' h; simp [Instr.fill] at h; rw [h]
  | cons q parts ih =>
    obtain ⟨i, v⟩ := q
    intro vs vs' h
    unfold Instr.fill at h
    split at h
    · cases h
    · rename_i off size hp
      split at h
      · cases h
      · have hf : v.cells.zipIdx.foldl (fun (cs : Array Value) (p : Value × Nat) => cs.setIfInBounds (off + p.2) p.1) vs = (v.cells.toList.zipIdx 0).foldl (fun (cs : Array Value) (p : Value × Nat) => cs.setIfInBounds (off + p.2) p.1) vs := by
          rw [← Array.foldl_toList]; congr 1; simp
        have := ih h
        rw [this]
        exact (congrArg Array.size hf).trans (foldl_set v.cells.toList off 0 vs).1
theorem fill_cons (place : Nat → Option (Nat × Nat)) (vs : Array Value) (i : Nat) (v : Value) (r : List (Nat × Value)) (off m : Nat) (hp : place i = some (off, m)) (h1 : v.cells.size = m) (h2 : off + m ≤ vs.size) :
    Instr.fill place vs ((i, v) :: r) = Instr.fill place (v.cells.zipIdx.foldl (fun (cs : Array Value) (p : Value × Nat) => cs.setIfInBounds (off + p.2) p.1) vs) r := by
  have hb : (decide (v.cells.size ≠ m) || decide (off + v.cells.size > vs.size)) = false := by simp; omega
  simp only [Instr.fill, hp]
  rw [hb]; rfl
theorem fillC_sound (h : St E n σ a w g) {place : Nat → Option (Nat × Nat)} {placeT : Nat → Option (Nat × Nat × Nat)} (hpl : ∀ i o m t, placeT i = some (o, m, t) → place i = some (o, m)) :
    ∀ (parts : List (Nat × Operand)) (parts' : List (Nat × Nat × Opd)) (cs cs' : List AC) (vs : Array Value), cParts P placeT parts = some parts' → State.pure.fillC σ cs parts' = some cs' → CsRel w g cs vs →
      ∃ vs', Instr.fill place vs (parts.map fun q => (q.1, a.eval q.2)) = some vs' ∧ CsRel w g cs' vs' := by
  intro parts
  induction parts with
  | nil =>
    intro parts' cs cs' vs hc hf hr
    simp only [cParts, Option.some.injEq] at hc; subst hc
    simp only [State.pure.fillC, Option.some.injEq] at hf; subst hf
    exact ⟨vs, rfl, hr⟩
  | cons q parts ih =>
    obtain ⟨i, x⟩ := q
    intro parts' cs cs' vs hc hf hr
    simp only [cParts] at hc
    split at hc
    · rename_i off m t hpi
      split at hc
      · rename_i y ys hy hys
        obtain rfl := Option.some.inj hc
        have hp := hpl _ _ _ _ hpi
        simp only [State.pure.fillC] at hf
        split at hf
        · rename_i c hev
          split at hf
          · rename_i hb
            obtain ⟨rfl, hlt⟩ := hb
            have hx := fun k t => (ev_rel h hy hev k t).c_inv
            have h1 : (a.eval x).cells = #[a.eval x] := (hx 0 0).one.2
            have hstep := place_cells (w := w) (g := g) (us := [c]) (ws := #[a.eval x]) (off := off) hr rfl (fun j d hd q => by
              cases j with
              | zero => simp at hd; subst hd; have := (hx 0 0).place (q := q) (ev_share h hy hev); simpa using this
              | succ j => simp at hd) (by simp; omega)
            have he : cs.take off ++ [c] ++ cs.drop (off + [c].length) = cs.set off c := by
              rw [List.set_eq_take_append_cons_drop, if_pos hlt]; simp
            rw [he] at hstep
            obtain ⟨vs', hv, hr'⟩ := ih ys _ cs' _ hys hf hstep
            refine ⟨vs', ?_, hr'⟩
            rw [List.map_cons, fill_cons place vs i _ _ off 1 hp (by rw [h1]; rfl) (by have := hr.1; omega), h1]
            exact hv
          · cases hf
        · rename_i as hev
          split at hf
          · rename_i hb
            obtain ⟨rfl, hle⟩ := hb
            obtain ⟨ws, hws, hl, hrel⟩ := (ev_rel h hy hev 0 0).agg_inv
            have hrel' : ∀ j d, as[j]? = some d → ∀ q, XRel w g q d (ws.getD j undef) := fun j d hd q => by
              -- what is read from a slot is shared
              have hs : d.share = d := by
                unfold cOpd at hy
                split at hy
                · obtain rfl := Option.some.inj hy
                  obtain ⟨v, hv, hv'⟩ := Option.map_eq_some_iff.1 hev
                  cases v with
                  | agg bs =>
                    simp only [AV.share, AV.agg.injEq] at hv'; subst hv'
                    simp only [List.getElem?_map] at hd
                    obtain ⟨b, hb, rfl⟩ := Option.map_eq_some_iff.1 hd
                    exact AC.share_share b
                  | c => simp [AV.share] at hv'
                  | tup => simp [AV.share] at hv'
                · obtain ⟨v, hv, rfl⟩ := Option.map_eq_some_iff.1 hy
                  obtain rfl := Option.some.inj hev
                  exfalso
                  unfold cVal at hv
                  split at hv <;> first | (cases hv; done) | (split at hv <;> simp at hv)
                · obtain rfl := Option.some.inj hy
                  simp [State.ev] at hev
                · cases hy
              exact (hrel j d hd).place hs
            have hstep := place_cells (w := w) (g := g) (us := as) (ws := ws) (off := off) hr hl hrel' hle
            obtain ⟨vs', hv, hr'⟩ := ih ys _ cs' _ hys hf hstep
            refine ⟨vs', ?_, hr'⟩
            rw [List.map_cons, fill_cons place vs i _ _ off as.length hp (by rw [hws]; exact hl.symm) (by have := hr.1; omega), hws]
            exact hv
          · cases hf
        · cases hf
      · cases hc
    · cases hc

theorem run_places (fs : List Field) (hz : ∀ f ∈ fs, ∃ m, szOf P f.type = some m) : (fs.mapM (m := Sem) fun f => do pure (f.offset, ← sizeOf f.type)).run P w = .ok (fs.map fun f => (f.offset, (szOf P f.type).getD 0)) w := by
  induction fs with
  | nil => simp
  | cons f fs ih =>
    obtain ⟨m, hm⟩ := hz f (by simp)
    simp only [List.mapM_cons, Sem.run_bind, run_sizeOf hm, Result.andThen_ok, Sem.run_pure, ih fun f hf => hz f (by simp [hf]), List.map_cons, hm, Option.getD_some]

theorem ps_build (h : St E n σ a w g) {t : Nat} {parts : Array (Nat × Operand)} (hc : cOp P tk ⟨dst, .build t parts, type, pos, after, guard⟩ = some iop) (hv : σ.pure iop = some v) : Runs P a w g ⟨dst, .build t parts, type, pos, after, guard⟩ v := by
  simp only [cOp] at hc
  split at hc
  · rename_i fs z hu hz
    split at hc
    · rename_i hall
      obtain ⟨parts', hp, rfl⟩ := Option.map_eq_some_iff.1 hc
      simp only [State.pure] at hv
      obtain ⟨cs', hf, rfl⟩ := Option.map_eq_some_iff.1 hv
      obtain ⟨zv, i, hi, hiz, hsz, hzs, hzr, hzx⟩ := zeroOf_rel hz
      have hpl := run_places (P := P) (w := w) fs.toList (fun f hf => by
        have := List.all_eq_true.1 hall f hf
        exact Option.isSome_iff_exists.1 this)
      obtain ⟨vs', hvs, hr⟩ := fillC_sound (P := P) (place := ((fs.map fun f => (f.offset, (szOf P f.type).getD 0))[·]?)) h (fun i o m t hi => by
        split at hi
        · rename_i f hf
          obtain ⟨m', hm, he⟩ := Option.map_eq_some_iff.1 hi
          simp only [Prod.mk.injEq] at he
          obtain ⟨rfl, rfl, rfl⟩ := he
          simp [hf, hm]
        · cases hi) parts.toList parts' z cs' zv.cells hp hf ⟨hzs.symm, fun j c hj q => (hzx w g q j c hj).1⟩
      refine ⟨.agg vs', ?_, fun k t => .s (.agg hr.1 fun j c hj => hr.2 j c hj _)⟩
      · have hm : ((fs.mapM (m := Sem) fun f => do pure (f.offset, ← sizeOf f.type)) : Sem _).run P w = .ok (fs.map fun f => (f.offset, (szOf P f.type).getD 0)) w := by
          rw [Array.mapM_eq_mapM_toList, ← bind_pure_comp]
          simp only [Sem.run_bind, hpl, Result.andThen_ok, Sem.run_pure]
          rw [← Array.toList_map]
        have hvs' : Instr.fill ((fs.map fun f => (f.offset, (szOf P f.type).getD 0))[·]?) zv.cells (parts.map fun q => (q.1, a.eval q.2)).toList = some vs' := by simpa using hvs
        simp only [execOp, Instr.build, Sem.run_bind, Sem.run_pure, Result.andThen_ok, hzr, run_underlying hu, hm, hvs']
    · cases hc
  · rename_i len e z hu hz
    split at hc
    · rename_i m hm
      obtain ⟨parts', hp, rfl⟩ := Option.map_eq_some_iff.1 hc
      simp only [State.pure] at hv
      obtain ⟨cs', hf, rfl⟩ := Option.map_eq_some_iff.1 hv
      obtain ⟨zv, i, hi, hiz, hsz, hzs, hzr, hzx⟩ := zeroOf_rel hz
      obtain ⟨vs', hvs, hr⟩ := fillC_sound (P := P) (place := fun i => some (i * m, m)) h (fun i o m' t hi => by
        simp only [Option.some.injEq, Prod.mk.injEq] at hi ⊢
        exact ⟨hi.1, hi.2.1⟩) parts.toList parts' z cs' zv.cells hp hf ⟨hzs.symm, fun j c hj q => (hzx w g q j c hj).1⟩
      refine ⟨.agg vs', ?_, fun k t => .s (.agg hr.1 fun j c hj => hr.2 j c hj _)⟩
      simp [execOp, Instr.build, hzr, run_underlying hu, run_sizeOf hm, hvs]
    · cases hc
  · cases hc
end
end Go.AI

set_option linter.unusedVariables false
set_option linter.unusedSimpArgs false
namespace Go.AI
open Go Go.RowKit

theorem cellsEq_len : ∀ {ks : List Nat} {xs ys : List AC} {r : Bool}, cellsEq ks xs ys = some r → xs.length = ks.length ∧ ys.length = ks.length := by
  intro ks
  induction ks with
  | nil => intro xs ys r h; unfold cellsEq at h; split at h <;> simp_all
  | cons k ks ih =>
    intro xs ys r h
    unfold cellsEq at h
    split at h
    · simp_all
    · rename_i e1; injection e1 with e1 e2; subst e2
      split at h
      · obtain ⟨r', hr, _⟩ := Option.map_eq_some_iff.1 h
        have := ih hr; simp [this]
      · cases h
    · rename_i e1; injection e1 with e1 e2; subst e2
      obtain ⟨r', hr, _⟩ := Option.map_eq_some_iff.1 h
      have := ih hr; simp [this]
    · rename_i e1; injection e1 with e1 e2; subst e2
      obtain ⟨r', hr, _⟩ := Option.map_eq_some_iff.1 h
      have := ih hr; simp [this]
    · cases h
theorem cellsEq_append : ∀ {k1 k2 : List Nat} {xs ys : List AC} {r : Bool}, cellsEq (k1 ++ k2) xs ys = some r → ∃ r1 r2, cellsEq k1 (xs.take k1.length) (ys.take k1.length) = some r1 ∧ cellsEq k2 (xs.drop k1.length) (ys.drop k1.length) = some r2 ∧ r = (r1 && r2) := by
  intro k1
  induction k1 with
  | nil => intro k2 xs ys r h; exact ⟨true, r, by simp only [List.length_nil, List.take_zero, cellsEq], by simp only [List.length_nil, List.drop_zero]; exact h, by simp⟩
  | cons k k1 ih =>
    intro k2 xs ys r h
    rw [List.cons_append] at h
    unfold cellsEq at h
    split at h
    · simp_all
    · rename_i ks kk x xs' kk' y ys' e1; injection e1 with e1 e2; subst e1; subst e2
      split at h
      · rename_i hk
        obtain ⟨r', hr, rfl⟩ := Option.map_eq_some_iff.1 h
        obtain ⟨r1, r2, h1, h2, rfl⟩ := ih hr
        refine ⟨(x == y) && r1, r2, ?_, ?_, ?_⟩
        · simp only [List.length_cons, List.take_succ_cons, cellsEq, if_pos hk, h1]; rfl
        · simp only [List.length_cons, List.drop_succ_cons]; exact h2
        · simp [Bool.and_assoc]
      · cases h
    · rename_i ks x xs' y ys' e1; injection e1 with e1 e2; subst e1; subst e2
      obtain ⟨r', hr, rfl⟩ := Option.map_eq_some_iff.1 h
      obtain ⟨r1, r2, h1, h2, rfl⟩ := ih hr
      refine ⟨(x == y) && r1, r2, ?_, ?_, ?_⟩
      · simp only [List.length_cons, List.take_succ_cons, cellsEq, h1]; rfl
      · simp only [List.length_cons, List.drop_succ_cons]; exact h2
      · simp [Bool.and_assoc]
    · rename_i ks x xs' y ys' e1; injection e1 with e1 e2; subst e1; subst e2
      obtain ⟨r', hr, rfl⟩ := Option.map_eq_some_iff.1 h
      obtain ⟨r1, r2, h1, h2, rfl⟩ := ih hr
      refine ⟨(x.toList == y.toList) && r1, r2, ?_, ?_, ?_⟩
      · simp only [List.length_cons, List.take_succ_cons, cellsEq, h1]; rfl
      · simp only [List.length_cons, List.drop_succ_cons]; exact h2
      · simp [Bool.and_assoc]
    · cases h

section
variable {P : Program} {w : World} {g : Gh}
/-- A value of a type over cells. -/
def TV (P : Program) (w : World) (g : Gh) (t : Nat) (as : List AC) (u : Value) : Prop :=
  (∃ a q, aggOf P t = some none ∧ as = [a] ∧ XRel w g q a u) ∨ ∃ us, aggOf P t = some (some as.length) ∧ u = .agg us ∧ CsRel w g as us

theorem part_TV {as : List AC} {us : Array Value} (hr : CsRel w g as us) {t off m : Nat} (hz : szOf P t = some m) (h1 : aggOf P t = some none → m = 1) (hle : off + m ≤ as.length) (hd : (aggOf P t).isSome) :
    ∃ u, (part t us off).run P w = .ok u w ∧ TV P w g t ((as.drop off).take m) u := by
  obtain ⟨r, hr'⟩ := Option.isSome_iff_exists.1 hd
  cases r with
  | none =>
    have hm := h1 hr'; subst hm
    have hlt : off < as.length := by omega
    have hlt' : off < us.size := by rw [← hr.1]; exact hlt
    refine ⟨us[off], ?_, .inl ⟨as[off], (0, 0, 0, 0), hr', ?_, ?_⟩⟩
    · obtain ⟨h2, _⟩ := run_isAgg hr' w
      simp [part, h2, Array.getElem?_eq_getElem hlt']
    · rw [List.drop_eq_getElem_cons hlt]; rfl
    · have := hr.2 off as[off] (List.getElem?_eq_getElem hlt) (0, 0, 0, 0)
      simpa [Array.getD_eq_getD_getElem?, Array.getElem?_eq_getElem hlt'] using this
  | some k =>
    obtain ⟨h2, h3⟩ := run_isAgg hr' w
    have hk : k = m := by
      have := h3 k rfl
      rw [run_sizeOf hz] at this
      injection this with this; exact this.symm
    subst hk
    have hlen : ((as.drop off).take k).length = k := by simp; omega
    refine ⟨.agg (us.extract off (off + k)), by simp [part, h2, run_sizeOf hz], .inr ⟨_, by rw [hlen]; exact hr', rfl, by rw [hlen]; have := hr.1; simp; omega, fun j a ha q => ?_⟩⟩
    rw [List.getElem?_take] at ha
    split at ha
    · rename_i hj
      rw [List.getElem?_drop] at ha
      have := hr.2 _ _ ha q
      have he : (us.extract off (off + k)).getD j undef = us.getD (off + j) undef := by
        simp only [Array.getD_eq_getD_getElem?]
        congr 1
        rw [Array.getElem?_extract]
        have hs := hr.1
        have : j < min (off + k) us.size - off := by omega
        simp [this]
      rw [he]; exact this
    · cases ha

theorem eqTy_agg {d t : Nat} {ks : List Nat} (h : eqTy P d t = some ks) : (aggOf P t = some none → ks.length = 1) ∧ (szOf P t = some ks.length → (aggOf P t).isSome) := by
  cases d with
  | zero => simp [eqTy] at h
  | succ d =>
    simp only [eqTy] at h
    unfold aggOf
    split at h
    · rename_i hu; rw [hu]; obtain rfl := Option.some.inj h; simp
    · rename_i hu; rw [hu]; obtain rfl := Option.some.inj h; simp
    · rename_i hu; rw [hu]; obtain rfl := Option.some.inj h; simp
    · rename_i hu; rw [hu]
      refine ⟨fun h' => ?_, fun h' => by simp [h']⟩
      obtain ⟨n, hn, he⟩ := Option.map_eq_some_iff.1 h'
      cases he
    · rename_i hu; rw [hu]
      refine ⟨fun h' => ?_, fun h' => by simp [h']⟩
      obtain ⟨n, hn, he⟩ := Option.map_eq_some_iff.1 h'
      cases he
    · cases h

theorem run_eqLoop {e D : Nat} {k : List Nat} (hz : szOf P e = some k.length) (hag : (aggOf P e = some none → k.length = 1) ∧ (szOf P e = some k.length → (aggOf P e).isSome))
    (hq : ∀ (as bs : List AC) (u v : Value) (r : Bool), TV P w g e as u → TV P w g e bs v → cellsEq k as bs = some r → (Op.equalIn D e u v).run P w = .ok r w) {as bs : List AC} {us vs : Array Value} (h1 : CsRel w g as us) (h2 : CsRel w g bs vs) :
    ∀ (n i : Nat) (r : Bool), as.length = (i + n) * k.length → bs.length = (i + n) * k.length → cellsEq (List.replicate n k).flatten (as.drop (i * k.length)) (bs.drop (i * k.length)) = some r →
      (forIn (m := Sem) (List.range' i n) ((none, ()) : Option Bool × Unit) fun i __s => do
            let __do_lift ← part e us (i * k.length)
            let __do_lift_1 ← part e vs (i * k.length)
            let __do_lift ← Op.equalIn D e __do_lift __do_lift_1
            if (!__do_lift) = true then pure (ForInStep.done (some false, ())) else pure (ForInStep.yield (none, ()))).run P w = .ok (if r then (none, ()) else (some false, ())) w := by
  intro n
  induction n with
  | zero =>
    intro i r l1 l2 h
    simp only [List.replicate_zero, List.flatten_nil] at h
    have : r = true := by unfold cellsEq at h; split at h <;> simp_all
    subst this; simp
  | succ n ih =>
    intro i r l1 l2 h
    rw [List.replicate_succ, List.flatten_cons] at h
    obtain ⟨r1, r2, e1, e2, rfl⟩ := cellsEq_append h
    have hle : i * k.length + k.length ≤ as.length := by rw [l1, show i + (n + 1) = (i + 1) + n by omega, Nat.add_mul (i + 1), Nat.add_mul]; omega
    have hle' : i * k.length + k.length ≤ bs.length := by rw [l2, ← l1]; exact hle
    obtain ⟨u, hu, tu⟩ := part_TV (P := P) (w := w) h1 hz hag.1 hle (hag.2 hz)
    obtain ⟨v, hv, tv⟩ := part_TV (P := P) (w := w) h2 hz hag.1 hle' (hag.2 hz)
    have hr := hq _ _ u v r1 tu tv e1
    rw [List.drop_drop, List.drop_drop, show i * k.length + k.length = (i + 1) * k.length by rw [Nat.add_mul]; omega] at e2
    have hrest := ih (i + 1) r2 (by rw [l1]; congr 1; omega) (by rw [l2]; congr 1; omega) e2
    rw [List.range'_succ]
    simp only [List.forIn_cons, Sem.run_bind, hu, hv, hr, Result.andThen_ok]
    cases r1
    · simp
    · simpa using hrest

theorem eqTy_sound : ∀ (d : Nat), (∀ (t : Nat) (ks : List Nat), eqTy P d t = some ks → ∀ D, d ≤ D → ∀ (as bs : List AC) (u v : Value) (r : Bool), TV P w g t as u → TV P w g t bs v → cellsEq ks as bs = some r → (Op.equalIn D t u v).run P w = .ok r w) ∧
    (∀ (fs : List Field) (o : Nat) (ks : List Nat), eqFs P (eqTy P d) o fs = some ks → ∀ D, d ≤ D → ∀ (as bs : List AC) (us vs : Array Value) (r : Bool), CsRel w g as us → CsRel w g bs vs → cellsEq ks (as.drop o) (bs.drop o) = some r → (Op.eqFields D us vs fs).run P w = .ok r w) := by
  intro d
  induction d with
  | zero =>
    refine ⟨fun t ks h => by simp [eqTy] at h, fun fs => ?_⟩
    cases fs with
    | nil =>
      intro o ks h D hD as bs us vs r h1 h2 h3
      simp only [eqFs, Option.some.injEq] at h; subst h
      have : r = true := by unfold cellsEq at h3; split at h3 <;> simp_all
      subst this; rfl
    | cons f fs =>
      intro o ks h
      simp [eqFs, eqTy] at h
  | succ d ih =>
    have hT : ∀ (t : Nat) (ks : List Nat), eqTy P (d + 1) t = some ks → ∀ D, d + 1 ≤ D → ∀ (as bs : List AC) (u v : Value) (r : Bool), TV P w g t as u → TV P w g t bs v → cellsEq ks as bs = some r → (Op.equalIn D t u v).run P w = .ok r w := by
      intro t ks h D hD as bs u v r h1 h2 h3
      obtain ⟨D, rfl⟩ : ∃ D', D = D' + 1 := ⟨D - 1, by omega⟩
      simp only [eqTy] at h
      have hsc : aggOf P t = some none → ∃ a b q q', as = [a] ∧ bs = [b] ∧ XRel w g q a u ∧ XRel w g q' b v := fun ha => by
        rcases h1 with ⟨a, q, _, e1, r1⟩ | ⟨us, e, _⟩
        · rcases h2 with ⟨b, q', _, e2, r2⟩ | ⟨us, e, _⟩
          · exact ⟨a, b, q, q', e1, e2, r1, r2⟩
          · rw [ha] at e; cases e
        · rw [ha] at e; cases e
      split at h
      · rename_i k hu
        obtain rfl := Option.some.inj h
        obtain ⟨a, b, q, q', rfl, rfl, r1, r2⟩ := hsc (by simp [aggOf, hu])
        unfold cellsEq at h3
        split at h3 <;> first | (simp_all; done) | skip
        · rename_i e1 e2 e3
          injection e2 with e2 e2'; injection e3 with e3 e3'; injection e1 with _ e1'
          subst e2; subst e3; subst e1'; subst e2'; subst e3'
          split at h3
          · rename_i hk; subst hk
            simp [cellsEq] at h3; subst h3
            rw [r1.int_inv, r2.int_inv]
            exact run_equalIn_int w D t _ k _ _ hu
          · cases h3
      · rename_i hu
        obtain rfl := Option.some.inj h
        obtain ⟨a, b, q, q', rfl, rfl, r1, r2⟩ := hsc (by simp [aggOf, hu])
        unfold cellsEq at h3
        split at h3 <;> first | (simp_all; done) | skip
        · rename_i e1 e2 e3
          injection e2 with e2 e2'; injection e3 with e3 e3'; injection e1 with _ e1'
          subst e2; subst e3; subst e1'; subst e2'; subst e3'
          simp [cellsEq] at h3; subst h3
          rw [r1.bool_inv, r2.bool_inv]
          exact run_equalIn_bool' w D t _ _ hu
      · rename_i hu
        obtain rfl := Option.some.inj h
        obtain ⟨a, b, q, q', rfl, rfl, r1, r2⟩ := hsc (by simp [aggOf, hu])
        unfold cellsEq at h3
        split at h3 <;> first | (simp_all; done) | skip
        · rename_i e1 e2 e3
          injection e2 with e2 e2'; injection e3 with e3 e3'; injection e1 with _ e1'
          subst e2; subst e3; subst e1'; subst e2'; subst e3'
          simp [cellsEq] at h3; subst h3
          rw [r1.str_inv, r2.str_inv]
          exact run_equalIn_string w D t _ _ hu
      · rename_i fs hu
        split at h
        · cases h
        · rename_i hst
          have hst' : P.stoodInHeld t = false := by simpa using hst
          have hno : aggOf P t ≠ some none := by
            unfold aggOf; rw [hu]; simp
          rcases h1 with ⟨_, _, e, _⟩ | ⟨us, _, rfl, r1⟩
          · exact (hno e).elim
          rcases h2 with ⟨_, _, e, _⟩ | ⟨vs, _, rfl, r2⟩
          · exact (hno e).elim
          have hf : P.fieldsOf t = fs := by simp [Program.fieldsOf, hu]
          rw [run_equalIn_struct w D t us vs (by rw [hf]; exact hu) hst', hf]
          exact ih.2 fs.toList 0 ks h D (by omega) as bs us vs r r1 r2 (by simpa using h3)
      · rename_i m e hu
        split at h
        · rename_i k hk
          split at h
          · rename_i hz
            simp only [beq_iff_eq] at hz
            obtain rfl := Option.some.inj h
            have hno : aggOf P t ≠ some none := by
              unfold aggOf; rw [hu]; simp
            rcases h1 with ⟨_, _, e, _⟩ | ⟨us, _, rfl, r1⟩
            · exact (hno e).elim
            rcases h2 with ⟨_, _, e, _⟩ | ⟨vs, _, rfl, r2⟩
            · exact (hno e).elim
            have hag := eqTy_agg hk
            have hd : (aggOf P e).isSome := hag.2 hz
            obtain ⟨l1, l2⟩ := cellsEq_len h3
            have hrep : (List.replicate m k).flatten.length = m * k.length := by simp
            rw [hrep] at l1 l2
            simp only [Op.equalIn, Sem.run_bind, run_underlying hu, run_sizeOf hz, Result.andThen_ok]
            rw [Std.Legacy.Range.forIn_eq_forIn_range']
            have hl := run_eqLoop (P := P) (w := w) (g := g) (e := e) (k := k) (D := D) hz (eqTy_agg hk) (fun as bs u v r t1 t2 t3 => ih.1 e k hk D (by omega) as bs u v r t1 t2 t3) r1 r2 m 0 r (by rw [Nat.zero_add]; exact l1) (by rw [Nat.zero_add]; exact l2) (by simpa using h3)
            simp only [Std.Legacy.Range.size, Nat.sub_zero, Nat.add_sub_cancel, Nat.div_one]
            rw [hl]
            cases r <;> rfl
          · cases h
        · cases h
      · cases h
    refine ⟨hT, ?_⟩
    intro fs
    induction fs with
    | nil =>
      intro o ks h D hD as bs us vs r h1 h2 h3
      simp only [eqFs, Option.some.injEq] at h; subst h
      have : r = true := by unfold cellsEq at h3; split at h3 <;> simp_all
      subst this; rfl
    | cons f fs ihf =>
      intro o ks h D hD as bs us vs r h1 h2 h3
      simp only [eqFs] at h
      split at h
      · rename_i hfo
        simp only [Bool.and_eq_true, bne_iff_ne, ne_eq, beq_iff_eq] at hfo
        obtain ⟨hn, ho⟩ := hfo
        split at h
        · rename_i k hk
          split at h
          · rename_i hz
            simp only [Bool.and_eq_true, beq_iff_eq, bne_iff_ne, ne_eq] at hz
            obtain ⟨hz, hk1⟩ := hz
            obtain ⟨ks', hks, rfl⟩ := Option.map_eq_some_iff.1 h
            obtain ⟨r1, r2, e1, e2, rfl⟩ := cellsEq_append h3
            obtain ⟨l1, l2⟩ := cellsEq_len h3
            simp only [List.length_append, List.length_drop] at l1 l2
            have hag := eqTy_agg hk
            have hk0 : aggOf P f.type = some none → k.length = 1 := hag.1
            have hd : (aggOf P f.type).isSome := hag.2 hz
            have hle : o + k.length ≤ as.length ∧ o + k.length ≤ bs.length := by
              omega
            obtain ⟨u, hu, tu⟩ := part_TV (P := P) (w := w) h1 hz hk0 hle.1 hd
            obtain ⟨v, hv, tv⟩ := part_TV (P := P) (w := w) h2 hz hk0 hle.2 hd
            have hq := hT f.type k hk D hD _ _ u v r1 tu tv e1
            have hrest := ihf (o + k.length) ks' hks D hD as bs us vs r2 h1 h2 (by rw [← List.drop_drop, ← List.drop_drop]; exact e2)
            simp only [Op.eqFields]
            rw [if_pos hn, ← ho] at *
            simp only [Sem.run_bind, hu, hv, hq, Result.andThen_ok]
            cases r1
            · simp
            · simpa using hrest
          · cases h
        · cases h
      · cases h
end
end Go.AI
namespace Go.AI
open Go Go.RowKit
section
variable {P : Program} {E : Entry} {n : Nat} {σ : State} {a : Act} {w : World} {g : Gh} {tk : List Nat} {v : AV}
  {dst : Option Nat} {type : Nat} {pos : String} {after : Array Edge} {guard : Option (Nat × Bool)} {iop : IOp}
theorem ev_agg (h : St E n σ a w g) {ty : Nat} {x : Operand} {y : Opd} (hy : cOpd P ty x = some y) {as : List AC} (hev : σ.ev y = some (.agg as)) : ∃ ws, a.eval x = .agg ws ∧ CsRel w g as ws := by
  obtain ⟨ws, hws, hl, hrel⟩ := (ev_rel h hy hev 0 0).agg_inv
  refine ⟨ws, hws, hl, fun j d hd q => ?_⟩
  have hs : d.share = d := by
    unfold cOpd at hy
    split at hy
    · obtain rfl := Option.some.inj hy
      obtain ⟨v, hv, hv'⟩ := Option.map_eq_some_iff.1 hev
      cases v with
      | agg bs =>
        simp only [AV.share, AV.agg.injEq] at hv'; subst hv'
        simp only [List.getElem?_map] at hd
        obtain ⟨b, hb, rfl⟩ := Option.map_eq_some_iff.1 hd
        exact AC.share_share b
      | c => simp [AV.share] at hv'
      | tup => simp [AV.share] at hv'
    · obtain ⟨v, hv, rfl⟩ := Option.map_eq_some_iff.1 hy
      obtain rfl := Option.some.inj hev
      exfalso
      unfold cVal at hv
      split at hv <;> first | (cases hv; done) | (split at hv <;> simp at hv)
    · obtain rfl := Option.some.inj hy
      simp [State.ev] at hev
    · cases hy
  exact (hrel j d hd).place hs

theorem ps_eqa (h : St E n σ a w g) {op : BinOp} {neg : Bool} {t u : Nat} {ks : List Nat} {x y : Operand} {x' y' : Opd} (hx : cOpd P t x = some x') (hy : cOpd P u y = some y') (hag : ∃ m, aggOf P t = some (some m)) (hk : eqTy P 20 t = some ks) (hg : P.eqGuardType P.depth t = false)
    (hop : (op = .eql ∧ neg = false) ∨ (op = .neq ∧ neg = true)) (hv : σ.pure (.eqa neg ks x' y') = some v) (hm : szOf P t = some ks.length) : Runs P a w g ⟨dst, .binOp op t x y u, type, pos, after, guard⟩ v := by
  simp only [State.pure] at hv
  split at hv
  · rename_i as bs h1 h2
    obtain ⟨r, hr, rfl⟩ := Option.map_eq_some_iff.1 hv
    obtain ⟨us, eu, ru⟩ := ev_agg h hx h1
    obtain ⟨vs, ev', rv⟩ := ev_agg h hy h2
    obtain ⟨l1, l2⟩ := cellsEq_len hr
    obtain ⟨m, hm'⟩ := hag
    have hmk : m = ks.length := by
      have := (run_isAgg hm' w).2 m rfl
      rw [run_sizeOf hm] at this
      injection this with this; exact this.symm
    subst hmk
    have he := (eqTy_sound (P := P) (w := w) (g := g) 20).1 t ks hk 10000 (by omega) as bs _ _ r (.inr ⟨us, by rw [l1]; exact hm', rfl, ru⟩) (.inr ⟨vs, by rw [l2]; exact hm', rfl, rv⟩) hr
    have hgd := run_eqGuard_agg (P := P) w op t x y us vs hg
    rcases hop with ⟨rfl, rfl⟩ | ⟨rfl, rfl⟩
    · refine ⟨.bool r, ?_, fun k t => .bool _⟩
      simp only [execOp, eu, ev', Sem.run_bind, hgd, Result.andThen_ok, run_eql_struct, he, Sem.run_pure]
    · refine ⟨.bool (!r), ?_, fun k t => .bool _⟩
      simp only [execOp, eu, ev', Sem.run_bind, hgd, Result.andThen_ok, run_neq_struct, he, Sem.run_pure]
  · cases hv

/-! ### All of them -/
theorem pure_sound (h : St E n σ a w g) {o : Oper} (hc : cOp P tk o = some iop) (hv : σ.pure iop = some v) : Runs P a w g o v := by
  obtain ⟨dst, op, type, pos, after, guard⟩ := o
  cases op with
  | move x =>
    simp only [cOp] at hc
    split at hc
    · split at hc
      · obtain rfl := Option.some.inj hc; simp [State.pure] at hv
      split at hc
      · obtain rfl := Option.some.inj hc; simp [State.pure] at hv
      · obtain rfl := Option.some.inj hc; exact (ps_mov (P := P) h (x := .tmp _) rfl hv).1
    · obtain ⟨y, hy, rfl⟩ := Option.map_eq_some_iff.1 hc
      exact (ps_mov h hy hv).1
  | assign x =>
    simp only [cOp] at hc
    split at hc
    · split at hc
      · obtain rfl := Option.some.inj hc; simp [State.pure] at hv
      split at hc
      · obtain rfl := Option.some.inj hc; simp [State.pure] at hv
      · obtain rfl := Option.some.inj hc; exact (ps_mov (P := P) h (x := .tmp _) rfl hv).2
    · obtain ⟨y, hy, rfl⟩ := Option.map_eq_some_iff.1 hc
      exact (ps_mov h hy hv).2
  | pick c x y =>
    simp only [cOp] at hc
    split at hc
    · rename_i c' x' y' h1 h2 h3
      obtain rfl := Option.some.inj hc; exact ps_pick h h1 h2 h3 hv
    · cases hc
  | alloc e => simp only [cOp] at hc; obtain ⟨z, hz, rfl⟩ := Option.map_eq_some_iff.1 hc; simp [State.pure] at hv
  | box e x => simp only [cOp] at hc; obtain ⟨z, hz, rfl⟩ := Option.map_eq_some_iff.1 hc; simp [State.pure] at hv
  | build t parts => exact ps_build h hc hv
  | buildSlice t len parts =>
    simp only [cOp] at hc
    split at hc
    · split at hc
      · split at hc
        · obtain ⟨z, hz, rfl⟩ := Option.map_eq_some_iff.1 hc; simp [State.pure] at hv
        · cases hc
      · cases hc
    · cases hc
  | load t x =>
    simp only [cOp] at hc
    split at hc
    · rename_i x' d h1 h2
      split at hc
      · obtain rfl := Option.some.inj hc; simp [State.pure] at hv
      · obtain rfl := Option.some.inj hc; exact ps_load h h1 h2 hv
    · rename_i r x' h1 h2 _
      obtain rfl := Option.some.inj hc; exact ps_load h h1 h2 hv
    · cases hc
  | store t x y =>
    simp only [cOp] at hc
    split at hc
    · obtain rfl := Option.some.inj hc; simp [State.pure] at hv
    · cases hc
  | binOp op t x y u =>
    simp only [cOp] at hc
    split at hc
    · rename_i x' y' h1 h2
      split at hc
      · obtain rfl := Option.some.inj hc; exact ps_bin h h1 h2 hv
      · obtain rfl := Option.some.inj hc; exact ps_bin h h1 h2 hv
      · rename_i hu
        obtain rfl := Option.some.inj hc; exact ps_binb h h1 h2 hu hv
      · rename_i hu
        split at hc
        · rename_i ks hk
          split at hc
          · cases hc
          · rename_i hb
            obtain ⟨hg, hm⟩ : P.eqGuardType P.depth t = false ∧ szOf P t = some ks.length := by simpa using hb
            have hag : ∃ m, aggOf P t = some (some m) := ⟨ks.length, by simp [aggOf, hu, hm]⟩
            split at hc
            · obtain rfl := Option.some.inj hc; exact ps_eqa h h1 h2 hag hk hg (.inl ⟨rfl, rfl⟩) hv hm
            · obtain rfl := Option.some.inj hc; exact ps_eqa h h1 h2 hag hk hg (.inr ⟨rfl, rfl⟩) hv hm
            · cases hc
        · cases hc
      · rename_i hu
        split at hc
        · rename_i ks hk
          split at hc
          · cases hc
          · rename_i hb
            obtain ⟨hg, hm⟩ : P.eqGuardType P.depth t = false ∧ szOf P t = some ks.length := by simpa using hb
            have hag : ∃ m, aggOf P t = some (some m) := ⟨ks.length, by simp [aggOf, hu, hm]⟩
            split at hc
            · obtain rfl := Option.some.inj hc; exact ps_eqa h h1 h2 hag hk hg (.inl ⟨rfl, rfl⟩) hv hm
            · obtain rfl := Option.some.inj hc; exact ps_eqa h h1 h2 hag hk hg (.inr ⟨rfl, rfl⟩) hv hm
            · cases hc
        · cases hc
      · split at hc
        · obtain rfl := Option.some.inj hc; simp [State.pure] at hv
        · obtain rfl := Option.some.inj hc; simp [State.pure] at hv
        · cases hc
      · cases hc
    · cases hc
  | unOp op t x =>
    simp only [cOp] at hc
    split at hc
    · rename_i x' h1
      obtain rfl := Option.some.inj hc; exact ps_not h h1 hv
    · rename_i x' h1
      obtain rfl := Option.some.inj hc; exact ps_neg h h1 hv
    · cases hc
  | convert src d x =>
    simp only [cOp] at hc
    split at hc
    · rename_i k1 k2 x' h1 h2 h3
      obtain rfl := Option.some.inj hc; exact ps_toInt h h1 h2 h3 hv
    · rename_i x' h1 h2 h3
      obtain rfl := Option.some.inj hc
      simp only [State.pure] at hv
      split at hv
      · rename_i s hs
        obtain rfl := Option.some.inj hv
        exact ps_str2 h h1 h2 h3 hs
      · cases hv
    · rename_i e x' h1 h2 h3
      split at hc
      · rename_i h4
        obtain rfl := Option.some.inj hc; exact ps_b2s h h1 h4 h2 h3 hv
      · cases hc
    · split at hc
      · obtain rfl := Option.some.inj hc; simp [State.pure] at hv
      · cases hc
    · cases hc
  | sliceToArrayPointer t x =>
    simp only [cOp] at hc
    split at hc
    · rename_i m e x' h1 h2
      obtain rfl := Option.some.inj hc; exact ps_s2a h h1 h2 hv
    · cases hc
  | makeFunc fn first caps =>
    cases fn with
    | func f =>
      simp only [cOp] at hc
      split at hc
      · rename_i hf
        obtain ⟨caps', h1, rfl⟩ := Option.map_eq_some_iff.1 hc
        exact ps_mkfn h hf h1 hv
      · cases hc
    | _ => simp [cOp] at hc
  | slice t x lo hi mx =>
    simp only [cOp] at hc
    split at hc
    · rename_i x' lo' hi' h1 h2 h3 h4 h5
      obtain rfl := Option.some.inj hc
      have : mx = none := by unfold cOption at h5; split at h5 <;> simp_all
      subst this
      exact ps_sstr h h1 h2 h3 h4 hv
    · rename_i e x' lo' hi' mx' h1 h2 h3 h4 h5
      obtain ⟨m, hm, rfl⟩ := Option.map_eq_some_iff.1 hc
      cases mx' with
      | none =>
        have : mx = none := by unfold cOption at h5; split at h5 <;> simp_all
        subst this
        exact ps_slst2 h h1 hm h2 h3 h4 hv
      | some mx' =>
        cases hi' with
        | none => simp [State.pure] at hv
        | some hi' =>
          have e1 : ∃ q, mx = some q := by unfold cOption at h5; split at h5 <;> simp_all
          have e2 : ∃ q, hi = some q := by unfold cOption at h4; split at h4 <;> simp_all
          obtain ⟨q1, rfl⟩ := e1
          obtain ⟨q2, rfl⟩ := e2
          exact ps_slst3 h h1 hm h2 h3 h4 h5 hv
    · obtain ⟨m, hm, rfl⟩ := Option.map_eq_some_iff.1 hc
      simp [State.pure] at hv
    · cases hc
  | fieldAddr s x f =>
    simp only [cOp] at hc
    split at hc
    · rename_i fs h1
      split at hc
      · rename_i fd h2
        split at hc
        · rename_i m x' h3 h4
          obtain rfl := Option.some.inj hc; exact ps_faddr h h1 h2 h3 h4 hv
        · cases hc
      · cases hc
    · cases hc
  | field t x f =>
    simp only [cOp] at hc
    split at hc
    · rename_i fs h1
      split at hc
      · rename_i fd h2
        split at hc
        · rename_i m x' h3 h4
          obtain rfl := Option.some.inj hc; exact ps_field h h1 h2 h3 h4 hv
        · cases hc
      · cases hc
    · cases hc
  | indexAddr t x i =>
    simp only [cOp] at hc
    split at hc
    · rename_i e x' i' h1 h2 h3
      obtain ⟨m, hm, rfl⟩ := Option.map_eq_some_iff.1 hc
      exact ps_iaddr h h1 hm h2 h3 hv
    · rename_i len e x' i' h1 h2 h3
      obtain ⟨m, hm, rfl⟩ := Option.map_eq_some_iff.1 hc
      exact ps_aaddr h h1 hm h2 h3 hv
    · cases hc
  | index t x i =>
    simp only [cOp] at hc
    split at hc
    · rename_i x' i' h1 h2 h3
      obtain rfl := Option.some.inj hc; exact ps_sidx h h1 h2 h3 hv
    · rename_i len e x' i' h1 h2 h3
      split at hc
      · rename_i m k h4 h5
        obtain rfl := Option.some.inj hc; exact ps_aidx h h1 h4 h5 h2 h3 hv
      · cases hc
    · cases hc
  | extract x i =>
    simp only [cOp] at hc
    obtain ⟨x', hx, rfl⟩ := Option.map_eq_some_iff.1 hc
    exact ps_extract h hx hv
  | call c =>
    obtain ⟨callee, args, argTypes⟩ := c
    simp only [cOp] at hc
    split at hc
    · split at hc
      · obtain rfl := Option.some.inj hc; simp [State.pure] at hv
      · cases hc
    · split at hc
      · rename_i x t h1 h2
        have h1' : args = #[x] := by simpa using congrArg List.toArray h1
        have h2' : argTypes = #[t] := by simpa using congrArg List.toArray h2
        subst h1'; subst h2'
        split at hc
        · rename_i x' h3 h4
          obtain rfl := Option.some.inj hc
          exact ps_slen h h3 h4 hv
        · rename_i e x' h3 h4
          obtain rfl := Option.some.inj hc
          exact ps_llen h h3 h4 hv
        · cases hc
      · cases hc
    · obtain ⟨xs, hxs, rfl⟩ := Option.map_eq_some_iff.1 hc
      have := ps_mx (P := P) (argTys := argTypes.toList) (dst := dst) (type := type) (pos := pos) (after := after) (guard := guard) h hxs hv
      simpa using this
    · obtain ⟨xs, hxs, rfl⟩ := Option.map_eq_some_iff.1 hc
      have := ps_mn (P := P) (argTys := argTypes.toList) (dst := dst) (type := type) (pos := pos) (after := after) (guard := guard) h hxs hv
      simpa using this
    · repeat' split at hc
      all_goals first
        | (cases hc; done)
        | (obtain rfl := Option.some.inj hc; simp [State.pure] at hv; done)
    · cases hc
  | _ => simp [cOp] at hc
end
end Go.AI
