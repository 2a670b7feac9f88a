/- A part of the proofs: a verified symbolic execution of Go's code, and what each function of the program computes; no conditions of its own. -/
import Derived.Test.YtimapebigcmbmaaK2
import Derived.Orders
import Derived.LoopN
import Derived.Scope
import Derived.IntWalk
import Derived.Laws.BitsAllLaws
import Derived.Test.YtimapebigcmbmaaRows
import Derived.Carry
import Derived.SizedLaws
import Derived.ChangeFn
import Derived.DataReads
import Derived.JoinedOf
import Derived.JoinedCond
import Derived.Deep.CondSized
import Derived.DataShut

set_option linter.unusedVariables false
set_option linter.unusedSimpArgs false
namespace Go.AI
open Go Go.RowKit Go.Lib

/-! ### Regions whose order is open -/
theorem look_kill_ne (l : List (Nat × AV)) (d t : Nat) (h : t ≠ d) : look (kill l [d]) t = look l t := by
  induction l with
  | nil => rfl
  | cons p r ih =>
    obtain ⟨q, u⟩ := p
    by_cases hq : q = d
    · subst hq
      simp only [kill, List.filter_cons, look, if_neg (Ne.symm h)]
      simpa [kill] using ih
    · by_cases h3 : q = t
      · subst h3; simp [kill, List.filter_cons, hq, look]
      · simpa [kill, List.filter_cons, hq, look, h3] using (by simpa [kill] using ih)
theorem put_put (e : List (Nat × AV)) (d t : Nat) (h : d ≠ t) (u v : AV) : put (put e d u) t v = put (put e t v) d u := by
  induction e with
  | nil =>
    by_cases h1 : t < d
    · have : ¬ d < t := by omega
      have h3 : t ≠ d := by omega
      simp [put, h1, this, h3]
    · have h2 : d < t := by omega
      simp [put, h1, h2, h]
  | cons p r ih =>
    obtain ⟨q, w⟩ := p
    simp only [put]
    repeat' (first | split | (simp only [put]; split))
    all_goals first
      | omega
      | (simp only [put, ih]; repeat' split) <;> first | omega | rfl | simp_all
theorem srt_iff (s : Nat) (u : AV) (r : List (Nat × AV)) : srtB ((s, u) :: r) = true ↔ (∀ p ∈ r, s < p.1) ∧ srtB r = true := by
  induction r generalizing s u with
  | nil => simp [srtB]
  | cons q r ih =>
    obtain ⟨t, v⟩ := q
    simp only [srtB, Bool.and_eq_true, decide_eq_true_eq, ih, List.mem_cons, forall_eq_or_imp]
    constructor
    · rintro ⟨h1, h2, h3⟩; exact ⟨⟨h1, fun p hp => Nat.lt_trans h1 (h2 p hp)⟩, h2, h3⟩
    · rintro ⟨⟨h1, h2⟩, h3, h4⟩; exact ⟨h1, h3, h4⟩
theorem mem_put {e : List (Nat × AV)} {t : Nat} {v : AV} {p : Nat × AV} (h : p ∈ put e t v) : p.1 = t ∨ p ∈ e := by
  induction e with
  | nil => simp [put] at h; exact .inl (by rw [h])
  | cons q r ih =>
    obtain ⟨s, u⟩ := q
    simp only [put] at h
    split at h
    · rcases List.mem_cons.1 h with rfl | h
      · exact .inl rfl
      · exact .inr h
    · split at h
      · rcases List.mem_cons.1 h with rfl | h
        · exact .inl rfl
        · exact .inr (List.mem_cons_of_mem _ h)
      · rcases List.mem_cons.1 h with rfl | h
        · exact .inr (by simp)
        · rcases ih h with h | h
          · exact .inl h
          · exact .inr (List.mem_cons_of_mem _ h)
theorem srt_put {e : List (Nat × AV)} (h : srtB e = true) (t : Nat) (v : AV) : srtB (put e t v) = true := by
  induction e with
  | nil => rfl
  | cons q r ih =>
    obtain ⟨s, u⟩ := q
    obtain ⟨h1, h2⟩ := (srt_iff _ _ _).1 h
    simp only [put]
    split
    · rename_i hlt
      refine (srt_iff _ _ _).2 ⟨fun p hp => ?_, h⟩
      rcases List.mem_cons.1 hp with rfl | hp
      · exact hlt
      · exact Nat.lt_trans hlt (h1 p hp)
    · split
      · rename_i h3; subst h3; exact (srt_iff _ _ _).2 ⟨h1, h2⟩
      · refine (srt_iff _ _ _).2 ⟨fun p hp => ?_, ih h2⟩
        rcases mem_put hp with hp | hp
        · rw [hp]; omega
        · exact h1 p hp
theorem srt_kill {e : List (Nat × AV)} (h : srtB e = true) (ts : List Nat) : srtB (kill e ts) = true := by
  induction e with
  | nil => rfl
  | cons q r ih =>
    obtain ⟨s, u⟩ := q
    obtain ⟨h1, h2⟩ := (srt_iff _ _ _).1 h
    unfold kill
    rw [List.filter_cons]
    split
    · exact (srt_iff _ _ _).2 ⟨fun p hp => h1 p (List.mem_filter.1 hp).1, ih h2⟩
    · exact ih h2
theorem put_kill {e : List (Nat × AV)} (hs : srtB e = true) {d t : Nat} (h : t ≠ d) (v : AV) : kill (put e t v) [d] = put (kill e [d]) t v := by
  induction e with
  | nil => simp [put, kill, h]
  | cons q r ih =>
    obtain ⟨s, u⟩ := q
    obtain ⟨h1, h2⟩ := (srt_iff _ _ _).1 hs
    have ih := ih h2
    have lt : ∀ r : List (Nat × AV), (∀ p ∈ r, t < p.1) → put r t v = (t, v) :: r := by
      intro r hr
      cases r with
      | nil => rfl
      | cons p r => simp [put, hr p (by simp)]
    by_cases hd : s = d
    · subst hd
      have hk : kill ((s, u) :: r) [s] = kill r [s] := by simp [kill]
      rw [hk]
      simp only [put]
      split
      · rename_i hlt
        have : put (kill r [s]) t v = (t, v) :: kill r [s] := lt _ fun p hp => Nat.lt_trans hlt (h1 p (List.mem_filter.1 hp).1)
        rw [this]
        simp [kill, h]
      · split
        · rename_i h3; exact absurd h3.symm h
        · rw [← ih]; simp [kill]
    · have hk : kill ((s, u) :: r) [d] = (s, u) :: kill r [d] := by simp [kill, hd]
      rw [hk]
      simp only [put]
      split
      · simp [kill, h, hd]
      · split
        · rename_i h3; subst h3; simp [kill, hd]
        · rw [← ih]; simp [kill, hd]
theorem kill_kill (e : List (Nat × AV)) (d t : Nat) : kill (kill e [d]) [t] = kill (kill e [t]) [d] := by
  simp only [kill, List.filter_filter]; congr 1; funext p; simp [and_comm, Bool.and_comm]

def State.yl (σ : State) (d : Nat) : Option AV → State
  | some u => ⟨put σ.env d u, σ.heap⟩
  | none => ⟨kill σ.env [d], σ.heap⟩
theorem yl_heap (σ : State) (d : Nat) (v : Option AV) : (σ.yl d v).heap = σ.heap := by cases v <;> rfl
theorem yl_look (σ : State) (d t : Nat) (v : Option AV) (h : t ≠ d) : look (σ.yl d v).env t = look σ.env t := by
  cases v with
  | none => exact look_kill_ne _ _ _ h
  | some u => simp [State.yl, look_put, Ne.symm h]
theorem yl_srt {σ : State} (h : srtB σ.env = true) (d : Nat) (v : Option AV) : srtB (σ.yl d v).env = true := by
  cases v with
  | none => exact srt_kill h _
  | some u => exact srt_put h _ _
theorem yl_put {σ : State} (hs : srtB σ.env = true) {d t : Nat} (h : t ≠ d) (v : Option AV) (u : AV) (H : List Blk) : (⟨put (σ.yl d v).env t u, H⟩ : State) = State.yl ⟨put σ.env t u, H⟩ d v := by
  cases v with
  | none => simp only [State.yl]; rw [put_kill hs h]
  | some x => simp only [State.yl]; rw [put_put _ _ _ (Ne.symm h)]
theorem yl_yl {σ : State} (hs : srtB σ.env = true) {d t : Nat} (h : t ≠ d) (v u : Option AV) : (σ.yl d v).yl t u = (σ.yl t u).yl d v := by
  cases u with
  | some u =>
    cases v with
    | some x => simp only [State.yl]; rw [put_put _ _ _ (Ne.symm h)]
    | none => simp only [State.yl]; rw [put_kill hs h]
  | none =>
    cases v with
    | none => simp only [State.yl]; rw [kill_kill]
    | some x => simp only [State.yl]; rw [put_kill hs (Ne.symm h)]

def Opd.rd : Opd → List Nat
  | .t n => [n]
  | .c _ => []
def rdO : Option Opd → List Nat
  | some x => x.rd
  | none => []
def rdL : List Opd → List Nat
  | [] => []
  | x :: xs => x.rd ++ rdL xs
def rdP : List (Nat × Nat × Opd) → List Nat
  | [] => []
  | (_, _, x) :: xs => x.rd ++ rdP xs
def AOp.reads : AOp → List Nat
  | .copy _ x y | .appR _ _ _ x y | .appM _ _ _ _ x y | .ovl _ _ x y => x.rd ++ y.rd
  | .clr _ _ x | .cap x => x.rd
def IOp.reads : IOp → List Nat
  | .mov x | .not x | .neg x | .toInt _ x | .s2s x | .b2s x | .s2b _ x | .load _ x | .loadT x | .faddr _ x | .field _ _ x | .extract x _ | .slen x | .len x | .s2a _ x | .box x | .asl _ _ x | .isnil _ x => x.rd
  | .movT s | .frz s => [s]
  | .pick c a b => c.rd ++ (a.rd ++ b.rd)
  | .bin _ x y | .binb _ x y | .eqa _ _ x y | .iaddr _ x y | .aaddr _ _ x y | .sidx x y | .aidx _ _ _ x y | .store _ x y | .append _ _ _ x y | .appA _ _ _ _ x y => x.rd ++ y.rd
  | .mx xs | .mn xs | .mkfn _ xs => rdL xs
  | .sstr x lo hi => x.rd ++ (rdO lo ++ rdO hi)
  | .slst _ x lo hi m => x.rd ++ (rdO lo ++ (rdO hi ++ rdO m))
  | .alloc _ | .srt => []
  | .build _ ps | .bsl _ _ _ _ ps => rdP ps
  | .call f xs | .callp f xs | .callx f xs => f.rd ++ rdL xs
  | .storeX ts _ x y => x.rd ++ (y.rd ++ ts)
  | .arr a => a.reads
def IOper.reads (io : IOper) : List Nat := (match io.guard with | some (t, _) => [t] | none => []) ++ io.op.reads

structure Agr (σ σ' : State) (R : List Nat) : Prop where
  env : ∀ t ∈ R, (look σ'.env t).map AV.share = (look σ.env t).map AV.share
  heap : HSim σ.heap σ'.heap
section
variable {P : Program} {σ σ' : State} {R : List Nat}
theorem Agr.yl (d : Nat) (v : Option AV) (h : d ∉ R) : Agr σ (σ.yl d v) R := ⟨fun t ht => by rw [yl_look _ _ _ _ (by intro e; subst e; exact h ht)], by rw [yl_heap]; exact HSim.refl _⟩
theorem Agr.ly (d : Nat) (v : Option AV) (h : d ∉ R) : Agr (σ.yl d v) σ R := ⟨fun t ht => by rw [yl_look _ _ _ _ (by intro e; subst e; exact h ht)], by rw [yl_heap]; exact HSim.refl _⟩
theorem Agr.sub (h : Agr σ σ' R) {S : List Nat} (hs : ∀ t ∈ S, t ∈ R) : Agr σ σ' S := ⟨fun t ht => h.env t (hs t ht), h.heap⟩
theorem Agr.l {S : List Nat} (h : Agr σ σ' (R ++ S)) : Agr σ σ' R := h.sub fun t ht => List.mem_append_left _ ht
theorem Agr.r {S : List Nat} (h : Agr σ σ' (R ++ S)) : Agr σ σ' S := h.sub fun t ht => List.mem_append_right _ ht
theorem Agr.ev {x : Opd} (h : Agr σ σ' x.rd) : σ'.ev x = σ.ev x := by
  cases x with
  | t n => exact h.env n (by simp [Opd.rd])
  | c v => rfl
theorem Agr.evs : ∀ {xs : List Opd} (h : Agr σ σ' (rdL xs)), σ'.evs xs = σ.evs xs
  | [], _ => rfl
  | x :: xs, h => by simp only [State.evs, Agr.ev (h.l (S := rdL xs)), Agr.evs (xs := xs) h.r]
theorem Agr.bound {d : Nat} {x : Option Opd} (h : Agr σ σ' (rdO x)) : σ'.bound d x = σ.bound d x := by
  cases x with
  | none => rfl
  | some x => simp only [State.bound, Agr.ev (x := x) h]
theorem Agr.fill : ∀ {ps : List (Nat × Nat × Opd)} {cs : List AC} (h : Agr σ σ' (rdP ps)), State.pure.fillC σ' cs ps = State.pure.fillC σ cs ps
  | [], _, _ => rfl
  | (o, n, x) :: ps, cs, h => by
    simp only [State.pure.fillC, Agr.ev (h.l (S := rdP ps))]
    split
    · split
      · exact Agr.fill h.r
      · rfl
    · split
      · exact Agr.fill h.r
      · rfl
    · rfl
theorem takeC_sim {cs cs' : List AC} (h : cs'.map AC.share = cs.map AC.share) (off : Nat) (n : Option Nat) : takeC cs' off n = takeC cs off n := by
  have hl : cs'.length = cs.length := by have := congrArg List.length h; simpa using this
  cases n with
  | none =>
    have := congrArg (·[off]?) h
    simp only [List.getElem?_map] at this
    simp only [takeC]
    cases h1 : cs[off]? <;> cases h2 : cs'[off]? <;> simp_all
  | some n =>
    have : ((cs'.drop off).take n).map AC.share = ((cs.drop off).take n).map AC.share := by rw [List.map_take, List.map_drop, h, ← List.map_drop, ← List.map_take]
    simp only [takeC, hl, this]
theorem Agr.rd (h : Agr σ σ' R) {n : Option Nat} {p v : AV} (hv : σ.rd n p = some v) : σ'.rd n p = some v := by
  unfold State.rd at hv ⊢
  split at hv
  · rename_i id off
    split at hv
    · rename_i cs hcs
      obtain ⟨b', hb, hs⟩ := h.heap _ _ hcs
      simp only [hb]
      cases hs with
      | refl => exact hv
      | cells _ cs' he => simp only [takeC_sim he]; exact hv
    · cases hv
  · exact hv
  · rename_i id esz i off
    split at hv
    · rename_i e xs hcs
      obtain ⟨b', hb, hs⟩ := h.heap _ _ hcs
      simp only [hb]
      cases hs with
      | refl => exact hv
    · cases hv
  · cases hv
theorem pure_agr {op : IOp} {v : AV} (h : Agr σ σ' op.reads) (hv : σ.pure op = some v) : σ'.pure op = some v := by
  cases op with
  | load n x =>
    simp only [State.pure, Agr.ev (x := x) h] at hv ⊢
    split at hv
    · rename_i p hp; exact h.rd hv
    · cases hv
  | mov x => simpa only [State.pure, Agr.ev (x := x) h] using hv
  | not x => simpa only [State.pure, Agr.ev (x := x) h] using hv
  | neg x => simpa only [State.pure, Agr.ev (x := x) h] using hv
  | toInt k x => simpa only [State.pure, Agr.ev (x := x) h] using hv
  | s2s x => simpa only [State.pure, Agr.ev (x := x) h] using hv
  | b2s x => simpa only [State.pure, Agr.ev (x := x) h] using hv
  | faddr k x => simpa only [State.pure, Agr.ev (x := x) h] using hv
  | field k n x => simpa only [State.pure, Agr.ev (x := x) h] using hv
  | extract x i => simpa only [State.pure, Agr.ev (x := x) h] using hv
  | slen x => simpa only [State.pure, Agr.ev (x := x) h] using hv
  | len x => simpa only [State.pure, Agr.ev (x := x) h] using hv
  | s2a n x => simpa only [State.pure, Agr.ev (x := x) h] using hv
  | pick c a b => simpa only [State.pure, Agr.ev (x := c) h.l, Agr.ev (x := a) h.r.l, Agr.ev (x := b) h.r.r] using hv
  | bin op x y => simpa only [State.pure, Agr.ev (x := x) h.l, Agr.ev (x := y) h.r] using hv
  | binb op x y => simpa only [State.pure, Agr.ev (x := x) h.l, Agr.ev (x := y) h.r] using hv
  | eqa g ks x y => simpa only [State.pure, Agr.ev (x := x) h.l, Agr.ev (x := y) h.r] using hv
  | iaddr k x y => simpa only [State.pure, Agr.ev (x := x) h.l, Agr.ev (x := y) h.r] using hv
  | aaddr k n x y => simpa only [State.pure, Agr.ev (x := x) h.l, Agr.ev (x := y) h.r] using hv
  | sidx x y => simpa only [State.pure, Agr.ev (x := x) h.l, Agr.ev (x := y) h.r] using hv
  | aidx k n o x y => simpa only [State.pure, Agr.ev (x := x) h.l, Agr.ev (x := y) h.r] using hv
  | mx xs => simpa only [State.pure, Agr.evs (xs := xs) h] using hv
  | mn xs => simpa only [State.pure, Agr.evs (xs := xs) h] using hv
  | mkfn f xs => simpa only [State.pure, Agr.evs (xs := xs) h] using hv
  | sstr x lo hi => simpa only [State.pure, Agr.ev (x := x) h.l, Agr.bound (x := lo) h.r.l, Agr.bound (x := hi) h.r.r] using hv
  | slst k x lo hi m =>
    cases m with
    | none => simpa only [State.pure, Agr.ev (x := x) h.l, Agr.bound (x := lo) h.r.l, Agr.bound (x := hi) h.r.r.l] using hv
    | some m =>
      cases hi with
      | none => simp only [State.pure] at hv; cases hv
      | some hi => simpa only [State.pure, Agr.ev (x := x) h.l, Agr.bound (x := lo) h.r.l, Agr.bound (x := some hi) h.r.r.l, Agr.bound (x := some m) h.r.r.r] using hv
  | build cs ps => simpa only [State.pure, Agr.fill (ps := ps) h] using hv
  | _ => simp only [State.pure] at hv; cases hv
end
end Go.AI

set_option linter.unusedVariables false
set_option linter.unusedSimpArgs false
namespace Go.AI
open Go Go.RowKit Go.Lib

/-- Operations that may be done earlier than those that stand ahead of them: they read alone. -/
def IOp.float : IOp → Bool
  | .movT .. | .alloc .. | .box .. | .loadT .. | .store .. | .append .. | .appA .. | .frz .. | .srt | .call .. | .asl .. | .isnil .. | .arr .. | .callx .. | .storeX .. => false
  | _ => true
/-- Operations that leave what the blocks hold. -/
def IOp.keeps : IOp → Bool
  | .store .. | .frz .. | .call .. | .asl .. | .arr .. | .storeX .. | .srt => false
  | _ => true
def IOper.float (io : IOper) : Bool := io.op.float && io.dst.isSome
/-- The value of an operation that turns nothing but its slot. -/
def opVal (σ : State) : IOp → Option AV
  | .bsl _ esz len zero parts => match State.pure.fillC σ zero parts with
    | some fl => if fl.all AC.pure then some (.c (.list (bslv len) esz (chunk len esz fl))) else none
    | none => none
  | .s2b _ x => match σ.ev x with
    | some (.c (.str s)) => if s.size ≤ 9223372036854775807 then some (.c (.list 0 1 (encB s.data.toList))) else none
    | _ => none
  | op => σ.pure op
theorem opVal_step {σ : State} {op : IOp} (hf : op.float = true) (hc : ∀ f xs, op ≠ .callp f xs) (d : Nat) : σ.step (some d) op = (opVal σ op).map (σ.setD (some d)) := by
  cases op with
  | bsl e esz len zero parts =>
    simp only [State.step, opVal]
    cases State.pure.fillC σ zero parts with
    | none => rfl
    | some fl => simp only; split <;> rfl
  | s2b e x =>
    simp only [State.step, opVal]
    cases h : σ.ev x with
    | none => rfl
    | some v =>
      cases v with
      | c a => cases a <;> first | rfl | (simp only; split <;> rfl)
      | _ => rfl
  | callp f xs => exact absurd rfl (hc f xs)
  | _ => first | rfl | cases hf
def Yv (P : Program) (op : IOp) (σ : State) (u : AV) : Prop :=
  match op with
  | .callp f args => ∃ fid caps us, σ.ev f = some (.c (.fn fid caps)) ∧ σ.evs args = some us ∧ RunsTo P fid ((us ++ caps.map AV.c).map AV.norm) [] u [] ∧ ((us ++ caps.map AV.c).map AV.norm).all (AV.all AC.free) = true ∧ u.all AC.res = true
  | op => opVal σ op = some u
def IOper.G (io : IOper) (σ : State) : Option Bool :=
  match io.guard with
  | none => some true
  | some (t, want) => match look σ.env t with
    | some (.c (.bool b)) => some (b == want)
    | some (.tup []) => some false
    | _ => none
def Y (P : Program) (io : IOper) (v : Option AV) (σ : State) : Prop := (io.G σ = some true ∧ ∃ u, v = some u ∧ Yv P io.op σ u) ∨ (io.G σ = some false ∧ v = some (.tup []))

section
variable {P : Program} {E : Entry} {n : Nat} {σ σ' : State} {a : Act} {w : World} {g : Gh} {tk : List Nat} {R : List Nat} {K : State → Prop} {io : IOper} {d : Nat} {v : Option AV}
theorem go_G : io.go P σ K ↔ (io.G σ = some true ∧ io.act P σ K) ∨ (io.G σ = some false ∧ K (σ.del io.dst)) := by
  unfold IOper.go IOper.G
  cases hg : io.guard with
  | none => simp
  | some p =>
    obtain ⟨t, want⟩ := p
    simp only
    cases hl : look σ.env t with
    | none => simp
    | some x =>
      cases x with
      | c x =>
        cases x with
        | bool b => by_cases h : b = want <;> simp [h]
        | _ => simp
      | tup vs => cases vs <;> simp
      | _ => simp
theorem share_bool_inv {v : AV} {b : Bool} (h : v.share = .c (.bool b)) : v = .c (.bool b) := by
  cases v with
  | c a =>
    simp only [AV.share, AV.c.injEq] at h
    cases a with
    | list lv e xs => unfold AC.share at h; split at h <;> cases h
    | bool b' => simpa [AC.share] using h
    | _ => simp [AC.share] at h
  | agg cs => cases h
  | tup vs => cases h
theorem share_tup_inv {v : AV} (h : v.share = .tup []) : v = .tup [] := by
  cases v with
  | c a => cases h
  | agg cs => cases h
  | tup vs => cases vs with
    | nil => rfl
    | cons x r => simp [AV.share] at h
theorem G_agr {b : Bool} (h : Agr σ σ' io.reads) (hg : io.G σ = some b) : io.G σ' = some b := by
  unfold IOper.G at hg ⊢
  split at hg
  · exact hg
  · rename_i t want hgu
    split at hg
    · rename_i c hc
      have := h.env t (by simp [IOper.reads, hgu])
      rw [hc] at this
      obtain ⟨v', hv', hs⟩ := Option.map_eq_some_iff.1 this
      have hv2 := share_bool_inv hs
      rw [hv', hv2]; exact hg
    · rename_i hc
      have := h.env t (by simp [IOper.reads, hgu])
      rw [hc] at this
      obtain ⟨v', hv', hs⟩ := Option.map_eq_some_iff.1 this
      have hv2 := share_tup_inv hs
      rw [hv', hv2]; exact hg
    · cases hg
theorem reads_r (h : Agr σ σ' io.reads) : Agr σ σ' io.op.reads := Agr.r h
theorem opVal_agr {op : IOp} {u : AV} (h : Agr σ σ' op.reads) (hy : opVal σ op = some u) : opVal σ' op = some u := by
  cases op with
  | bsl e esz len zero parts =>
    have hfl : State.pure.fillC σ' zero parts = State.pure.fillC σ zero parts := Agr.fill (ps := parts) h
    simpa only [opVal, hfl] using hy
  | s2b e x =>
    have he : σ'.ev x = σ.ev x := Agr.ev h
    simpa only [opVal, he] using hy
  | _ => exact pure_agr h hy
theorem Yv_agr {op : IOp} {u : AV} (h : Agr σ σ' op.reads) (hy : Yv P op σ u) : Yv P op σ' u := by
  unfold Yv at hy ⊢
  split at hy
  · obtain ⟨fid, caps, us, h1, h2, h3⟩ := hy
    exact ⟨fid, caps, us, by rw [Agr.ev h.l]; exact h1, by rw [Agr.evs h.r]; exact h2, h3⟩
  · exact opVal_agr h hy
theorem Y_agr (h : Agr σ σ' io.reads) (hy : Y P io v σ) : Y P io v σ' := by
  rcases hy with ⟨h1, u, h2, h3⟩ | ⟨h1, h2⟩
  · exact .inl ⟨G_agr h h1, u, h2, Yv_agr (reads_r h) h3⟩
  · exact .inr ⟨G_agr h h1, h2⟩
theorem act_Y (hf : io.op.float = true) (hd : io.dst = some d) : io.act P σ K ↔ ∃ u, Yv P io.op σ u ∧ K (σ.yl d (some u)) := by
  unfold IOper.act Yv
  split
  · rename_i f args hop; rw [hop] at hf; cases hf
  · rename_i f args hop
    simp only [hop]
    constructor
    · rintro ⟨fid, caps, us, r, h1, h2, h3, h4, h5, h6, h7⟩
      refine ⟨r, ?_, ?_⟩
      · exact ⟨fid, caps, us, h1, h2, h4, h5, h6⟩
      · rw [hd] at h7; exact h7
    · rintro ⟨r, ⟨fid, caps, us, h1, h2, h4, h5, h6⟩, h7⟩
      refine ⟨fid, caps, us, r, h1, h2, ⟨d, hd⟩, h4, h5, h6, ?_⟩
      rw [hd]; exact h7
  · rename_i hop; rw [hop] at hf; cases hf
  · rename_i hop; rw [hop] at hf; cases hf
  · rename_i hop; rw [hop] at hf; cases hf
  · rename_i hop; rw [hop] at hf; cases hf
  · rename_i neg x hop; rw [hop] at hf; cases hf
  · rename_i hop0 hop2 hop4 hop5 hop6 hop1 hop3
    have hq : σ.step io.dst io.op = (opVal σ io.op).map (σ.setD io.dst) := by
      rw [hd]
      exact opVal_step hf (fun f xs he => hop2 f xs he) d
    rw [hq, hd]
    cases hp : opVal σ io.op with
    | none =>
      simp only [Option.map_none, false_iff]
      rintro ⟨u, h1, h2⟩
      rw [hp] at h1; cases h1
    | some u =>
      simp only [Option.map_some]
      constructor
      · intro h
        exact ⟨u, hp, h⟩
      · rintro ⟨u', h1, h2⟩
        rw [hp] at h1; obtain rfl := Option.some.inj h1; exact h2
theorem go_Y (hf : io.op.float = true) (hd : io.dst = some d) : io.go P σ K ↔ ∃ v, Y P io v σ ∧ K (σ.yl d v) := by
  rw [go_G, act_Y hf hd]
  constructor
  · rintro (⟨h1, u, h2, h3⟩ | ⟨h1, h2⟩)
    · exact ⟨some u, .inl ⟨h1, u, rfl, h2⟩, h3⟩
    · refine ⟨some (.tup []), .inr ⟨h1, rfl⟩, ?_⟩
      rw [hd] at h2; exact h2
  · rintro ⟨v, ⟨h1, u, rfl, h2⟩ | ⟨h1, rfl⟩, h3⟩
    · exact .inl ⟨h1, u, h2, h3⟩
    · refine .inr ⟨h1, ?_⟩
      rw [hd]; exact h3

theorem HSim.app (H : List Blk) (b : Blk) : HSim H (H ++ [b]) := fun id c h => ⟨c, by
  rw [List.getElem?_append_left (by
    obtain ⟨hlt, _⟩ := List.getElem?_eq_some_iff.1 h; exact hlt)]; exact h, .refl c⟩
theorem map_share_set (cs : List AC) (off : Nat) (a : AC) (h : cs[off]? = some a) : (cs.set off a.share).map AC.share = cs.map AC.share := by
  apply List.ext_getElem?
  intro i
  rw [List.getElem?_map, List.getElem?_map, List.getElem?_set]
  split
  · rename_i hi; subst hi
    obtain ⟨hlt, hh⟩ := List.getElem?_eq_some_iff.1 h
    simp [hlt, AC.share_share, hh]
  · rfl
theorem HSim.setc (H : List Blk) (id : Nat) (cs : List AC) (off : Nat) (a : AC) (h1 : H[id]? = some (.cells cs)) (h2 : cs[off]? = some a) : HSim H (H.set id (.cells (cs.set off a.share))) := by
  intro j c h
  by_cases hj : id = j
  · subst hj
    rw [h1] at h; obtain rfl := Option.some.inj h
    obtain ⟨hlt, _⟩ := List.getElem?_eq_some_iff.1 h1
    exact ⟨_, by rw [List.getElem?_set, if_pos rfl, if_pos hlt], .cells _ _ (map_share_set cs off a h2)⟩
  · exact ⟨c, by rw [List.getElem?_set, if_neg hj]; exact h, .refl c⟩
/-- What may be said of a step that was done behind another one. -/
structure Swap (σ σ' : State) (dj : Option Nat) : Prop where
  env : ∀ t, dj ≠ some t → (look σ'.env t).map AV.share = (look σ.env t).map AV.share
  srt : srtB σ'.env = true
theorem Swap.setD (hs : srtB σ.env = true) (dj : Option Nat) (u : AV) (H : List Blk) : Swap σ (State.setD ⟨σ.env, H⟩ dj u) dj := by
  cases dj with
  | none => exact ⟨fun t ht => rfl, hs⟩
  | some d => exact ⟨fun t ht => by simp only [State.setD]; rw [look_put, if_neg (by intro e; exact ht (by rw [e]))], srt_put hs _ _⟩
theorem Swap.put (hs : srtB σ.env = true) (dj : Nat) (u : AV) (H : List Blk) : Swap σ ⟨AI.put σ.env dj u, H⟩ (some dj) := Swap.setD hs (some dj) u H
theorem setD_yl (hs : srtB σ.env = true) {dst : Option Nat} (hne : dst ≠ some d) (v : Option AV) (u : AV) (H : List Blk) : State.setD ⟨(σ.yl d v).env, H⟩ dst u = State.yl (State.setD ⟨σ.env, H⟩ dst u) d v := by
  cases dst with
  | none => cases v <;> rfl
  | some t => exact yl_put hs (fun e => hne (by rw [e])) v u H
theorem raw_yl (v : Option AV) {x : Opd} (h : d ∉ x.rd) : (σ.yl d v).raw x = σ.raw x := by
  cases x with
  | t s => exact yl_look _ _ _ _ (by intro e; subst e; exact h (by simp [Opd.rd]))
  | c v => rfl
theorem take_yl (hs : srtB σ.env = true) (v : Option AV) {x : Opd} (h : d ∉ x.rd) : (σ.yl d v).take x = (σ.take x).yl d v := by
  cases x with
  | c u => rfl
  | t s =>
    have hsd : s ≠ d := by intro e; subst e; exact h (by simp [Opd.rd])
    simp only [State.take, yl_look _ _ _ _ hsd]
    split
    · rw [yl_heap]; exact yl_put hs hsd v _ _
    · rfl
theorem take_heap (σ : State) (x : Opd) : (σ.take x).heap = σ.heap := by
  cases x with
  | t q => simp only [State.take]; split <;> rfl
  | c q => rfl
theorem take_share (σ : State) (x : Opd) (t : Nat) : (look (σ.take x).env t).map AV.share = (look σ.env t).map AV.share := by
  cases x with
  | c q => rfl
  | t s =>
    simp only [State.take]
    split
    · rename_i u hu
      simp only [look_put]
      split
      · rename_i e; subst e; rw [hu]; simp [AV.share_share]
      · rfl
    · rfl
theorem srt_take (hs : srtB σ.env = true) (x : Opd) : srtB (σ.take x).env = true := by
  cases x with
  | c v => exact hs
  | t s =>
    simp only [State.take]
    split
    · exact srt_put hs _ _
    · exact hs
theorem Swap.take (hs : srtB σ.env = true) (x : Opd) (dj : Option Nat) (H : List Blk) : Swap σ ⟨(σ.take x).env, H⟩ dj := ⟨fun t _ => take_share σ x t, srt_take hs x⟩
theorem Swap.takePut (hs : srtB σ.env = true) (x : Opd) (dj : Nat) (u : AV) (H : List Blk) : Swap σ ⟨AI.put (σ.take x).env dj u, H⟩ (some dj) :=
  ⟨fun t ht => by rw [look_put, if_neg (by intro e; exact ht (by rw [e]))]; exact take_share σ x t, srt_put (srt_take hs x) _ _⟩
theorem takePut_yl (hs : srtB σ.env = true) (v : Option AV) {x : Opd} (h : d ∉ x.rd) {dj : Nat} (hne : dj ≠ d) (u : AV) (H : List Blk) : (⟨AI.put ((σ.yl d v).take x).env dj u, H⟩ : State) = State.yl ⟨AI.put (σ.take x).env dj u, H⟩ d v := by
  rw [take_yl hs v h]
  exact yl_put (σ := σ.take x) (srt_take hs x) hne v u H
theorem srcRows_yl (v : Option AV) (u : AV) : (σ.yl d v).srcRows u = σ.srcRows u := by
  unfold State.srcRows; rw [yl_heap]
theorem arrRows_yl (v : Option AV) (id k : Nat) : (σ.yl d v).arrRows id k = σ.arrRows id k := by
  unfold State.arrRows; rw [yl_heap]

theorem step_swap {op : IOp} {τ : State} {dst : Option Nat} (hsr : op ≠ .srt) (hne : dst ≠ some d) (hr : d ∉ op.reads) (hs : srtB σ.env = true) (h : (σ.yl d v).step dst op = some τ) :
    ∃ σ', σ.step dst op = some σ' ∧ τ = σ'.yl d v ∧ Swap σ σ' dst ∧ (op.keeps = true → HSim σ.heap σ'.heap) := by
  have ag : Agr (σ.yl d v) σ op.reads := Agr.ly d v hr
  have nd : ∀ d', dst = some d' → d' ≠ d := fun d' e e2 => hne (by rw [e, e2])
  have quiet : ((σ.yl d v).pure op).map ((σ.yl d v).setD dst) = some τ → ∃ σ', (σ.pure op).map (σ.setD dst) = some σ' ∧ τ = σ'.yl d v ∧ Swap σ σ' dst ∧ (op.keeps = true → HSim σ.heap σ'.heap) := fun h => by
    obtain ⟨u, hu, rfl⟩ := Option.map_eq_some_iff.1 h
    refine ⟨σ.setD dst u, by rw [pure_agr ag hu]; rfl, ?_, Swap.setD hs dst u σ.heap, fun _ => ?_⟩
    · have := setD_yl hs hne v u σ.heap
      rw [← yl_heap σ d v] at this
      rw [yl_heap] at this
      rw [← this]
      cases v <;> rfl
    · cases dst <;> exact HSim.refl _
  cases op with
  | srt => exact absurd rfl hsr
  | alloc cs =>
    cases dst with
    | none => cases h
    | some dj =>
      obtain rfl := Option.some.inj h
      rw [yl_heap, yl_put hs (nd _ rfl)]
      exact ⟨_, rfl, rfl, Swap.put hs dj _ _, fun _ => HSim.app _ _⟩
  | box x =>
    simp only [State.step, ← Agr.ev (x := x) ag, yl_heap] at h
    simp only [State.step]
    split at h
    · rename_i c dj e1
      obtain rfl := Option.some.inj h
      rw [yl_put hs (nd _ rfl)]
      exact ⟨_, rfl, rfl, Swap.put hs dj _ _, fun _ => HSim.app _ _⟩
    · rename_i c dj e1
      obtain rfl := Option.some.inj h
      rw [yl_put hs (nd _ rfl)]
      exact ⟨_, rfl, rfl, Swap.put hs dj _ _, fun _ => HSim.app _ _⟩
    · cases h
  | bsl e k len z ps =>
    simp only [State.step, ← Agr.fill (ps := ps) ag, yl_heap] at h
    simp only [State.step]
    split at h
    · rename_i fl dj e2
      split at h
      · rename_i hp
        obtain rfl := Option.some.inj h
        rw [yl_put hs (nd _ rfl)]
        exact ⟨_, by rw [if_pos hp], rfl, Swap.put hs dj _ _, fun _ => HSim.refl _⟩
      · cases h
    · cases h
  | s2b e x =>
    simp only [State.step, ← Agr.ev (x := x) ag, yl_heap] at h
    simp only [State.step]
    split at h
    · rename_i s dj e2
      split at h
      · rename_i hp
        obtain rfl := Option.some.inj h
        rw [yl_put hs (nd _ rfl)]
        exact ⟨_, by rw [if_pos hp], rfl, Swap.put hs dj _ _, fun _ => HSim.refl _⟩
      · cases h
    · cases h
  | movT s =>
    have hsd : s ≠ d := by intro e; subst e; exact hr (by simp [IOp.reads])
    simp only [State.step, yl_look _ _ _ _ hsd, yl_heap] at h
    simp only [State.step]
    split at h
    · rename_i u dj hlk
      split at h
      · rename_i hp
        obtain rfl := Option.some.inj h
        have q := yl_put hs hsd v u.share σ.heap
        have q2 := yl_put (σ := ⟨put σ.env s u.share, σ.heap⟩) (srt_put hs _ _) (nd _ rfl) v u σ.heap
        have q3 : put (put (σ.yl d v).env s u.share) dj u = put (State.yl ⟨put σ.env s u.share, σ.heap⟩ d v).env dj u := by rw [← q]
        refine ⟨⟨AI.put (AI.put σ.env s u.share) dj u, σ.heap⟩, by rw [if_pos hp], ?_, ⟨fun t ht => ?_, srt_put (srt_put hs _ _) _ _⟩, fun _ => HSim.refl _⟩
        · rw [q3]; exact q2
        · rw [look_put, if_neg (by intro e; exact ht (by rw [e])), look_put]
          split
          · rename_i hst; subst hst; rw [hlk]; simp [AV.share_share]
          · rfl
      · cases h
    · cases h
  | loadT x =>
    simp only [State.step, ← Agr.ev (x := x) ag, yl_heap] at h
    simp only [State.step]
    split at h
    · rename_i id off dj e2
      split at h
      · rename_i cs hcs
        split at h
        · rename_i c hc
          obtain rfl := Option.some.inj h
          rw [yl_put hs (nd _ rfl)]
          exact ⟨_, rfl, rfl, Swap.put hs dj _ _, fun _ => HSim.setc _ _ _ _ _ hcs hc⟩
        · cases h
      · cases h
    · cases h
  | store m x y =>
    have hx : σ.ev x = (σ.yl d v).ev x := Agr.ev ag.l
    have hdy : d ∉ y.rd := fun hm => hr (List.mem_append_right _ hm)
    simp only [State.step, ← hx, raw_yl v hdy, yl_heap, take_yl hs v hdy] at h
    simp only [State.step]
    split at h
    · rename_i id off u e1 e2
      split at h
      · rename_i cs hcs
        split at h
        · rename_i hb
          obtain rfl := Option.some.inj h
          refine ⟨_, by rw [if_pos hb], ?_, Swap.take hs y dst _, fun hk => by cases hk⟩
          cases v <;> rfl
        · cases h
      · cases h
    · rename_i id k i off u e1 e2
      split at h
      · rename_i e k2 xs hcs
        split at h
        · rename_i hk
          split at h
          · rename_i z hz
            split at h
            · rename_i hb
              obtain rfl := Option.some.inj h
              refine ⟨⟨σ.env, σ.heap.set id (.arr e k2 (xs.set i (splice z off (u.cells.map AC.norm))))⟩, by rw [if_pos hk, if_pos hb], ?_, ⟨fun _ _ => rfl, hs⟩, fun hk => by cases hk⟩
              cases v <;> rfl
            · cases h
          · cases h
        · cases h
      · cases h
    · cases h
  | append e k b s x =>
    have hx : σ.ev x = (σ.yl d v).ev x := Agr.ev ag.r
    have hds : d ∉ s.rd := fun hm => hr (List.mem_append_left _ hm)
    simp only [State.step, ← hx, raw_yl v hds, yl_heap] at h
    simp only [State.step]
    split at h
    · rename_i lv k1 xs lv' k2 ys dj e1 e2
      split at h
      · rename_i hb
        split at h
        · rename_i hb2
          obtain rfl := Option.some.inj h
          exact ⟨_, by rw [if_pos hb, if_pos hb2], takePut_yl hs v hds (nd _ rfl) _ _, Swap.takePut hs s dj _ _, fun _ => HSim.refl _⟩
        · cases h
      · cases h
    · rename_i lv k1 xs tt dj e1 e2
      split at h
      · rename_i hb
        split at h
        · rename_i hb2
          obtain rfl := Option.some.inj h
          exact ⟨_, by rw [if_pos hb, if_pos hb2], takePut_yl hs v hds (nd _ rfl) _ _, Swap.takePut hs s dj _ _, fun _ => HSim.refl _⟩
        · cases h
      · cases h
    · cases h
  | frz s =>
    have hsd : s ≠ d := by intro e; subst e; exact hr (by simp [IOp.reads])
    simp only [State.step, yl_look _ _ _ _ hsd, yl_heap] at h
    simp only [State.step]
    split at h
    · rename_i id k len c dj hlk
      split at h
      · rename_i e k2 xs hid
        split at h
        · rename_i hb
          obtain rfl := Option.some.inj h
          rw [yl_put hs (nd _ rfl)]
          exact ⟨_, by rw [if_pos hb], rfl, Swap.put hs dj _ _, fun hk => by cases hk⟩
        · cases h
      · cases h
    · rename_i lv k xs dj hlk
      obtain rfl := Option.some.inj h
      rw [yl_put hs (nd _ rfl)]
      exact ⟨_, rfl, rfl, Swap.put hs dj _ _, fun hk => by cases hk⟩
    · cases h
  | asl m k x =>
    simp only [State.step, ← Agr.ev (x := x) ag, yl_heap] at h
    simp only [State.step]
    split at h
    · rename_i cs dj e1
      split at h
      · rename_i hb
        obtain rfl := Option.some.inj h
        rw [yl_put hs (nd _ rfl)]
        exact ⟨_, by rw [if_pos hb], rfl, Swap.put hs dj _ _, fun hk => by cases hk⟩
      · cases h
    · rename_i id dj e1
      split at h
      · rename_i cs hcs
        split at h
        · rename_i hb
          obtain rfl := Option.some.inj h
          rw [yl_put hs (nd _ rfl)]
          exact ⟨_, by rw [if_pos hb], rfl, Swap.put hs dj _ _, fun hk => by cases hk⟩
        · cases h
      · cases h
    · cases h
  | _ => exact quiet h

theorem stepA_swap {e k b : Nat} {z : List AC} {s x : Opd} {extra : Nat} {τ : State} {dst : Option Nat} (hne : dst ≠ some d) (hr : d ∉ s.rd ++ x.rd) (hs : srtB σ.env = true) (h : (σ.yl d v).stepA dst e k b z s x extra = some τ) :
    ∃ σ', σ.stepA dst e k b z s x extra = some σ' ∧ τ = σ'.yl d v ∧ Swap σ σ' dst ∧ HSim σ.heap σ'.heap := by
  have hx : σ.ev x = (σ.yl d v).ev x := Agr.ev (Agr.ly d v (fun hm => hr (List.mem_append_right _ hm)))
  have hds : d ∉ s.rd := fun hm => hr (List.mem_append_left _ hm)
  simp only [State.stepA, ← hx, raw_yl v hds, yl_heap] at h
  simp only [State.stepA]
  split at h
  · rename_i k1 xs lv' k2 ys dj e1 e2
    have hnd : dj ≠ d := fun e2 => hne (by rw [e2])
    split at h
    · rename_i hb
      split at h
      · rename_i hb2
        split at h
        · obtain rfl := Option.some.inj h
          exact ⟨_, by rw [if_pos hb, if_pos hb2], takePut_yl hs v hds hnd _ _, Swap.takePut hs s dj _ _, HSim.refl _⟩
        · obtain rfl := Option.some.inj h
          exact ⟨_, by rw [if_pos hb, if_pos hb2], takePut_yl hs v hds hnd _ _, Swap.takePut hs s dj _ _, HSim.app _ _⟩
      · cases h
    · cases h
  · cases h

/-! Every step leaves the tmps in order. -/
theorem srt_setD (hs : srtB σ.env = true) (dst : Option Nat) (u : AV) (H : List Blk) : srtB (State.setD ⟨σ.env, H⟩ dst u).env = true := by
  cases dst with
  | none => exact hs
  | some d => exact srt_put hs _ _
theorem step_srt (hs : srtB σ.env = true) {dst : Option Nat} {op : IOp} (h : σ.step dst op = some σ') : srtB σ'.env = true := by
  unfold State.step at h
  (repeat' split at h) <;> first
    | (cases h; done)
    | (obtain ⟨u, _, rfl⟩ := Option.map_eq_some_iff.1 h; exact srt_setD hs _ _ _)
    | (obtain rfl := Option.some.inj h; first | exact hs | exact srt_put hs _ _ | exact srt_put (srt_put hs _ _) _ _ | exact srt_take hs _ | exact srt_put (srt_take hs _) _ _)
theorem stepA_srt (hs : srtB σ.env = true) {dst : Option Nat} {e esz b : Nat} {z : List AC} {s x : Opd} {extra : Nat} (h : σ.stepA dst e esz b z s x extra = some σ') : srtB σ'.env = true := by
  unfold State.stepA at h
  (repeat' split at h) <;> first
    | (cases h; done)
    | (obtain rfl := Option.some.inj h; exact srt_put (srt_take hs _) _ _)
theorem arrGo_imp {dst : Option Nat} {K K' : State → Prop} (hk : ∀ (u : AV) (H : List Blk), K (State.setD ⟨σ.env, H⟩ dst u) → K' (State.setD ⟨σ.env, H⟩ dst u)) {x : AOp} (h : arrGo P σ dst K x) : arrGo P σ dst K' x := by
  cases x with
  | copy k s x =>
    simp only [arrGo] at h ⊢
    split at h
    · split at h
      · exact ⟨h.1, h.2.1, h.2.2.1, hk _ _ h.2.2.2⟩
      · exact h.elim
    · exact ⟨h.1, hk _ σ.heap h.2⟩
    · exact h.elim
  | appR e k b s x =>
    simp only [arrGo] at h ⊢
    split at h
    · split at h
      · refine ⟨h.1, h.2.1, ?_⟩
        have h2 := h.2.2
        split at h2
        · rename_i hr; rw [if_pos hr]; exact ⟨h2.1, hk _ _ h2.2⟩
        · rename_i hr; rw [if_neg hr]; exact ⟨h2.1, h2.2.1, h2.2.2.1, hk _ σ.heap h2.2.2.2⟩
      · exact h.elim
    · exact h.elim
  | appM e k b z s x =>
    simp only [arrGo] at h ⊢
    split at h
    · split at h
      · exact ⟨h.1, h.2.1, h.2.2.1, h.2.2.2.1, h.2.2.2.2.1, h.2.2.2.2.2.1, fun extra => hk _ _ (h.2.2.2.2.2.2 extra)⟩
      · exact h.elim
    · exact h.elim
  | clr k z x =>
    simp only [arrGo] at h ⊢
    split at h
    · split at h
      · exact ⟨h.1, h.2.1, hk _ _ h.2.2⟩
      · exact h.elim
    · exact hk _ σ.heap h
    · exact h.elim
  | cap x =>
    simp only [arrGo] at h ⊢
    split at h
    · exact hk _ σ.heap h
    · exact hk _ σ.heap h
    · exact h.elim
  | ovl f t x y =>
    simp only [arrGo] at h ⊢
    refine ⟨h.1, ?_⟩
    have h2 := h.2
    split at h2
    · exact ⟨h2.1, hk _ σ.heap h2.2⟩
    · exact h2.elim
theorem go_srt (hs : srtB σ.env = true) (h : io.go P σ K) : io.go P σ fun σ' => K σ' ∧ srtB σ'.env = true := by
  rw [go_G] at h ⊢
  rcases h with ⟨h1, h2⟩ | ⟨h1, h2⟩
  · refine .inl ⟨h1, ?_⟩
    unfold IOper.act at h2 ⊢
    split at h2
    · obtain ⟨fid, caps, us, q1, q2, q3, ⟨r, q4, q5, q6, q7⟩ | ⟨Q, nf, hnf, q4, q5⟩⟩ := h2
      · exact ⟨fid, caps, us, q1, q2, q3, .inl ⟨r, q4, q5, q6, q7, srt_setD hs _ _ _⟩⟩
      · exact ⟨fid, caps, us, q1, q2, q3, .inr ⟨Q, nf, hnf, q4, fun r H' hq => ⟨q5 r H' hq, srt_setD hs _ _ _⟩⟩⟩
    · obtain ⟨fid, caps, us, r, q1, q2, q3, q4, q5, q6, q7⟩ := h2
      exact ⟨fid, caps, us, r, q1, q2, q3, q4, q5, q6, q7, srt_setD hs _ _ _⟩
    · obtain ⟨fid, caps, us, q1, q2, q3, ⟨r, q4, q5, q6, q7⟩ | ⟨Q, nf, hnf, q4, q5⟩⟩ := h2
      · exact ⟨fid, caps, us, q1, q2, q3, .inl ⟨r, q4, q5, q6, q7, srt_setD hs _ _ _⟩⟩
      · exact ⟨fid, caps, us, q1, q2, q3, .inr ⟨Q, nf, hnf, q4, fun r H' hq => ⟨(q5 r H' hq).1, (q5 r H' hq).2, srt_setD hs _ _ _⟩⟩⟩
    · exact arrGo_imp (fun u H hk => ⟨hk, srt_setD hs _ _ _⟩) h2
    · obtain ⟨q1, q2⟩ := h2
      refine ⟨q1, ?_⟩
      split at q2
      · rename_i s hss; exact ⟨q2, step_srt hs hss⟩
      · exact q2.elim
    · intro extra hex
      have h3 := h2 extra hex
      split at h3
      · rename_i s hss; exact ⟨h3, stepA_srt hs hss⟩
      · exact h3.elim
    · unfold nilGo at h2 ⊢
      split at h2
      · exact ⟨⟨h2.1.1, h2.1.2, srt_setD hs _ _ _⟩, h2.2.1, h2.2.2, srt_setD hs _ _ _⟩
      · exact ⟨h2.1, h2.2, srt_setD hs _ _ _⟩
      · exact h2.elim
    · split at h2
      · rename_i s hss; exact ⟨h2, step_srt hs hss⟩
      · exact h2.elim
  · refine .inr ⟨h1, h2, ?_⟩
    cases hd : io.dst with
    | none => exact hs
    | some d => exact srt_put hs _ _

theorem srcRows_fn (v : Option AV) : (σ.yl d v).srcRows = σ.srcRows := funext fun u => srcRows_yl v u
theorem arrGo_yl {dst : Option Nat} (hne : dst ≠ some d) (hs : srtB σ.env = true) {x : AOp} (hr : d ∉ x.reads) (h : arrGo P (σ.yl d v) dst K x) : arrGo P σ dst (fun σ' => K (σ'.yl d v)) x := by
  have hset : ∀ (u : AV) (H : List Blk), State.setD ⟨(σ.yl d v).env, H⟩ dst u = State.yl (State.setD ⟨σ.env, H⟩ dst u) d v := fun u H => setD_yl hs hne v u H
  have hset2 : ∀ (u : AV), (σ.yl d v).setD dst u = State.yl (σ.setD dst u) d v := fun u => by
    have := hset u σ.heap
    rw [show (⟨(σ.yl d v).env, σ.heap⟩ : State) = σ.yl d v by cases v <;> rfl] at this
    exact this
  have ev : ∀ y : Opd, d ∉ y.rd → (σ.yl d v).ev y = σ.ev y := fun y hy => (Agr.ev (Agr.ly d v hy)).symm
  cases x with
  | copy k s x =>
    simp only [AOp.reads, List.mem_append, not_or] at hr
    simpa only [arrGo, ev s hr.1, ev x hr.2, srcRows_fn, arrRows_yl, yl_heap, hset, hset2] using h
  | appR e k b s x =>
    simp only [AOp.reads, List.mem_append, not_or] at hr
    simpa only [arrGo, ev s hr.1, ev x hr.2, srcRows_fn, arrRows_yl, yl_heap, hset, hset2] using h
  | appM e k b z s x =>
    simp only [AOp.reads, List.mem_append, not_or] at hr
    simpa only [arrGo, ev s hr.1, ev x hr.2, srcRows_fn, arrRows_yl, yl_heap, hset, hset2] using h
  | clr k z x => simpa only [arrGo, ev x hr, srcRows_fn, arrRows_yl, yl_heap, hset, hset2] using h
  | cap x => simpa only [arrGo, ev x hr, srcRows_fn, arrRows_yl, yl_heap, hset, hset2] using h
  | ovl f t x y =>
    simp only [AOp.reads, List.mem_append, not_or] at hr
    simpa only [arrGo, ev x hr.1, ev y hr.2, srcRows_fn, arrRows_yl, yl_heap, hset, hset2] using h

/-- An operation behind one that fills a slot which it does not know may as well be done ahead of it. -/
theorem go_swap (hsr : io.op ≠ .srt) (hne : io.dst ≠ some d) (hr : d ∉ io.reads) (hs : srtB σ.env = true) (h : io.go P (σ.yl d v) K) :
    io.go P σ fun σ' => K (σ'.yl d v) ∧ Swap σ σ' io.dst ∧ (io.op.keeps = true → HSim σ.heap σ'.heap) := by
  have ag : Agr (σ.yl d v) σ io.reads := Agr.ly d v hr
  have hro : d ∉ io.op.reads := fun hm => hr (List.mem_append_right _ hm)
  have ago : Agr (σ.yl d v) σ io.op.reads := Agr.ly d v hro
  have hset : ∀ (u : AV) (H : List Blk), State.setD ⟨(σ.yl d v).env, H⟩ io.dst u = State.yl (State.setD ⟨σ.env, H⟩ io.dst u) d v := fun u H => setD_yl hs hne v u H
  have hset2 : ∀ (u : AV), (σ.yl d v).setD io.dst u = State.yl (σ.setD io.dst u) d v := fun u => by
    have := hset u σ.heap
    rw [show (⟨(σ.yl d v).env, σ.heap⟩ : State) = σ.yl d v by cases v <;> rfl] at this
    exact this
  have sh : ∀ (u : AV) (H : List Blk), (State.setD ⟨σ.env, H⟩ io.dst u).heap = H := fun u H => by cases io.dst <;> rfl
  rw [go_G] at h ⊢
  rcases h with ⟨h1, h2⟩ | ⟨h1, h2⟩
  · refine .inl ⟨G_agr ag h1, ?_⟩
    unfold IOper.act at h2 ⊢
    cases hop : io.op with
    | call f args =>
      rw [hop] at h2 hro ago
      obtain ⟨fid, caps, us, q1, q2, q3, q⟩ := h2
      rw [← Agr.ev ago.l] at q1
      rw [← Agr.evs ago.r] at q2
      rcases q with ⟨r, q4, q5, q6, q7⟩ | ⟨Q, nf, hnf, q4, q5⟩
      · rw [hset2] at q7
        exact ⟨fid, caps, us, q1, q2, q3, .inl ⟨r, q4, q5, q6, q7, Swap.setD hs _ _ σ.heap, fun hk => by cases hk⟩⟩
      · rw [yl_heap] at q4
        exact ⟨fid, caps, us, q1, q2, q3, .inr ⟨Q, nf, hnf, q4, fun r H' hq => ⟨by have := q5 r H' hq; rwa [hset] at this, Swap.setD hs _ _ _, fun hk => by cases hk⟩⟩⟩
    | callp f args =>
      rw [hop] at h2 hro ago
      obtain ⟨fid, caps, us, r, q1, q2, q3, q4, q5, q6, q7⟩ := h2
      rw [← Agr.ev ago.l] at q1
      rw [← Agr.evs ago.r] at q2
      rw [hset2] at q7
      exact ⟨fid, caps, us, r, q1, q2, q3, q4, q5, q6, q7, Swap.setD hs _ _ σ.heap, fun _ => by have := sh r σ.heap; rw [show σ.setD io.dst r = State.setD ⟨σ.env, σ.heap⟩ io.dst r from rfl, this]; exact HSim.refl _⟩
    | callx f args =>
      rw [hop] at h2 hro ago
      obtain ⟨fid, caps, us, q1, q2, q3, q⟩ := h2
      rw [← Agr.ev ago.l] at q1
      rw [← Agr.evs ago.r] at q2
      rcases q with ⟨r, q4, q5, q6, q7⟩ | ⟨Q, nf, hnf, q4, q5⟩
      · rw [hset2] at q7
        exact ⟨fid, caps, us, q1, q2, q3, .inl ⟨r, q4, q5, q6, q7, Swap.setD hs _ _ σ.heap, fun _ => by have := sh r σ.heap; rw [show σ.setD io.dst r = State.setD ⟨σ.env, σ.heap⟩ io.dst r from rfl, this]; exact HSim.refl _⟩⟩
      · rw [yl_heap] at q4
        exact ⟨fid, caps, us, q1, q2, q3, .inr ⟨Q, nf, hnf, q4, fun r H' hq => by
          obtain ⟨a1, a2⟩ := q5 r H' hq
          rw [yl_heap] at a1
          rw [hset] at a2
          exact ⟨a1, a2, Swap.setD hs _ _ _, fun _ => by rw [sh]; exact a1⟩⟩⟩
    | arr x =>
      rw [hop] at h2 hro ago
      exact arrGo_imp (fun u H hk => ⟨hk, Swap.setD hs _ _ _, fun hk => by cases hk⟩) (arrGo_yl hne hs hro h2)
    | storeX ts m x y =>
      rw [hop] at h2 hro ago
      obtain ⟨q1, q2⟩ := h2
      have hx : σ.ev x = (σ.yl d v).ev x := Agr.ev ago.l
      have hts : d ∉ ts := fun hm => hro (List.mem_append_right _ (List.mem_append_right _ hm))
      refine ⟨?_, ?_⟩
      · unfold State.apart at q1 ⊢
        rw [hx]
        split at q1
        · rename_i id hid
          rw [List.all_eq_true] at q1 ⊢
          intro t ht
          have := q1 t ht
          rwa [yl_look _ _ _ _ (by intro e; subst e; exact hts ht)] at this
        · cases q1
      · split at q2
        · rename_i τ hτ
          obtain ⟨σ', k1, rfl, k2, k3⟩ := step_swap (op := .store m x y) (by simp) hne (fun hm => hro (by
            rcases List.mem_append.1 hm with hm | hm
            · exact List.mem_append_left _ hm
            · exact List.mem_append_right _ (List.mem_append_left _ hm))) hs hτ
          rw [k1]; exact ⟨q2, k2, fun hk => by cases hk⟩
        · exact q2.elim
    | appA e k b z s x =>
      rw [hop] at h2 hro ago
      intro extra hex
      have h3 := h2 extra hex
      split at h3
      · rename_i τ hτ
        obtain ⟨σ', k1, rfl, k2, k3⟩ := stepA_swap hne hro hs hτ
        rw [k1]; exact ⟨h3, k2, fun _ => k3⟩
      · exact h3.elim
    | isnil neg x =>
      rw [hop] at h2 hro ago
      have hx : σ.ev x = (σ.yl d v).ev x := Agr.ev ago
      simp only [hx]
      simp only [hset2] at h2
      have hh : ∀ b, HSim σ.heap (σ.setD io.dst (AV.c (.bool b))).heap := fun b => by
        have := sh (AV.c (.bool b)) σ.heap
        rw [show σ.setD io.dst (AV.c (.bool b)) = State.setD ⟨σ.env, σ.heap⟩ io.dst (AV.c (.bool b)) from rfl, this]; exact HSim.refl _
      unfold nilGo at h2 ⊢
      split at h2
      · exact ⟨⟨h2.1.1, h2.1.2, Swap.setD hs _ _ σ.heap, fun _ => hh _⟩, h2.2.1, h2.2.2, Swap.setD hs _ _ σ.heap, fun _ => hh _⟩
      · exact ⟨h2.1, h2.2, Swap.setD hs _ _ σ.heap, fun _ => hh _⟩
      · exact h2.elim
    | srt => exact absurd hop hsr
    | _ =>
      rw [hop] at h2 hro ago
      simp only at h2 ⊢
      split at h2
      · rename_i τ hτ
        obtain ⟨σ', q1, rfl, q2, q3⟩ := step_swap (by simp) hne hro hs hτ
        rw [q1]; exact ⟨h2, q2, q3⟩
      · exact h2.elim
  · refine .inr ⟨G_agr ag h1, ?_⟩
    cases hd : io.dst with
    | none =>
      rw [hd] at h2
      exact ⟨h2, ⟨fun _ _ => rfl, hs⟩, fun _ => HSim.refl _⟩
    | some dj =>
      rw [hd] at h2 hne
      have hnd : dj ≠ d := fun e => hne (by rw [e])
      have e : (σ.yl d v).del (some dj) = (σ.yl d v).yl dj (some (.tup [])) := by cases v <;> rfl
      rw [e, yl_yl hs hnd] at h2
      exact ⟨h2, Swap.put hs dj _ _, fun _ => HSim.refl _⟩
end
end Go.AI

set_option linter.unusedVariables false
set_option linter.unusedSimpArgs false
namespace Go.AI
open Go Go.RowKit Go.Lib

section
variable {P : Program}
theorem IOper.go_mono (o : IOper) {KS KS' : State → Prop} (h : ∀ s, KS s → KS' s) {σ : State} (hg : o.go P σ KS) : o.go P σ KS' := by
  have act : ∀ {σ : State}, o.act P σ KS → o.act P σ KS' := by
    intro σ ha
    unfold IOper.act at ha ⊢
    split at ha
    · obtain ⟨fid, caps, us, q1, q2, q3, ⟨r, q4, q5, q6, q7⟩ | ⟨Q, nf, hnf, q4, q5⟩⟩ := ha
      · exact ⟨fid, caps, us, q1, q2, q3, .inl ⟨r, q4, q5, q6, h _ q7⟩⟩
      · exact ⟨fid, caps, us, q1, q2, q3, .inr ⟨Q, nf, hnf, q4, fun r H' hq => h _ (q5 r H' hq)⟩⟩
    · obtain ⟨fid, caps, us, r, h1, h2, h3, h4, h5, h6, h7⟩ := ha
      exact ⟨fid, caps, us, r, h1, h2, h3, h4, h5, h6, h _ h7⟩
    · obtain ⟨fid, caps, us, q1, q2, q3, ⟨r, q4, q5, q6, q7⟩ | ⟨Q, nf, hnf, q4, q5⟩⟩ := ha
      · exact ⟨fid, caps, us, q1, q2, q3, .inl ⟨r, q4, q5, q6, h _ q7⟩⟩
      · exact ⟨fid, caps, us, q1, q2, q3, .inr ⟨Q, nf, hnf, q4, fun r H' hq => ⟨(q5 r H' hq).1, h _ (q5 r H' hq).2⟩⟩⟩
    · exact arrGo_imp (fun u H hk => h _ hk) ha
    · refine ⟨ha.1, ?_⟩
      have h2 := ha.2
      split at h2
      · rename_i s hs; exact h _ h2
      · exact h2.elim
    · intro extra hex
      have h3 := ha extra hex
      split at h3
      · rename_i s hs; exact h _ h3
      · exact h3.elim
    · unfold nilGo at ha ⊢
      split at ha
      · exact ⟨⟨ha.1.1, h _ ha.1.2⟩, ha.2.1, h _ ha.2.2⟩
      · exact ⟨ha.1, h _ ha.2⟩
      · exact ha.elim
    · split at ha
      · rename_i s hs; exact h _ ha
      · exact ha.elim
  unfold IOper.go at hg ⊢
  split at hg
  · rename_i hn; exact act hg
  · rename_i t w hn
    split at hg
    · rename_i b hb
      split at hg
      · rename_i hw; rw [if_pos hw]; exact act hg
      · rename_i hw; rw [if_neg hw]; exact h _ hg
    · exact h _ hg
    · exact hg.elim
theorem goOps_mono : ∀ (l : List IOper) {KS KS' : State → Prop} (h : ∀ s, KS s → KS' s) {σ : State} (hg : goOps P l σ KS), goOps P l σ KS' := by
  intro l
  induction l with
  | nil => intro KS KS' h σ hg; exact h _ hg
  | cons o l ih => intro KS KS' h σ hg; exact IOper.go_mono o (fun s hs => ih h hs) hg
end
def IOp.toP : IOp → IOp
  | .call f xs => .callp f xs
  | op => op
def IOper.toP (io : IOper) : IOper := ⟨io.dst, io.op.toP, io.guard⟩
def IOp.toX : IOp → IOp
  | .call f xs => .callx f xs
  | op => op
def IOper.toX (io : IOper) : IOper := ⟨io.dst, io.op.toX, io.guard⟩
def IOp.toS (ts : List Nat) : IOp → IOp
  | .store n x y => .storeX ts n x y
  | op => op
def IOper.toS (io : IOper) (ts : List Nat) : IOper := ⟨io.dst, io.op.toS ts, io.guard⟩

/-- The operations that must stand ahead of each one: the bits of a number. -/
def ancB (md : Region.Mode) (acc : List Nat) : List Edge → Nat
  | [] => 0
  | e :: es => if Region.binds md e then ancB md acc es ||| (2 ^ e.on) ||| acc.getD e.on 0 else ancB md acc es
def ancs (md : Region.Mode) : List Oper → List Nat → List Nat
  | [], acc => acc
  | o :: os, acc => ancs md os (acc ++ [ancB md acc o.after.toList])
def depB (md : Region.Mode) (ops : Array Oper) (j i : Nat) : Bool := ((ancs md ops.toList []).getD j 0).testBit i
def IOp.isLoad : IOp → Bool
  | .load .. => true
  | _ => false
def IOp.isSrt : IOp → Bool
  | .srt => true
  | _ => false
/-- May this load stand ahead of that operation? -/
def heapB : IOp → IOp → Bool
  | .load _ (.t p), .storeX ts _ _ _ => ts.contains p
  | .load _ _, jo => jo.keeps
  | _, _ => true
def apB (io jo : IOper) : Bool :=
  match io.dst with
  | some d => jo.dst != some d && !jo.reads.contains d && (match jo.dst with
    | some dj => !io.reads.contains dj
    | none => true) && !jo.op.isSrt && heapB io.op jo.op
  | none => false
def flB (md : Region.Mode) (ops : Array Oper) (ios : List IOper) (l : Array Bool) (i : Nat) (io : IOper) : Bool :=
  io.float && (List.range ops.size).all fun j => j == i || l.getD j true || depB md ops j i || match ios[j]? with
    | some jo => apB io jo
    | none => false
def chk (md : Region.Mode) (ops : Array Oper) (ios : List IOper) : List Nat → Array Bool → Bool
  | [], l => (Region.ready md ops l).isEmpty
  | k :: ks, l => (match ios[k]? with
      | some io => decide (Region.ready md ops l = [k]) || ((Region.ready md ops l).contains k && flB md ops ios l k io)
      | none => false) && chk md ops ios ks (l.setIfInBounds k true)

def goAny (P : Program) (md : Region.Mode) (ops : Array Oper) (ios : List IOper) (K : State → Prop) : Nat → Array Bool → State → Prop
  | 0, l, σ => Region.ready md ops l = [] ∧ K σ
  | f + 1, l, σ => (Region.ready md ops l = [] → K σ) ∧ ∀ i ∈ Region.ready md ops l, ∃ io, ios[i]? = some io ∧ io.go P σ (goAny P md ops ios K f (l.setIfInBounds i true))
def Cl (md : Region.Mode) (ops : Array Oper) (l : Array Bool) : Prop := ∀ j oj, ops[j]? = some oj → l.getD j false = true → ∀ e ∈ oj.after, Region.binds md e = true → l.getD e.on false = true

section
variable {P : Program} {E : Entry} {n : Nat} {σ σ' : State} {a : Act} {w : World} {g : Gh} {tk : List Nat} {K : State → Prop} {io : IOper} {d : Nat} {v : Option AV}
  {md : Region.Mode} {ops : Array Oper} {ios : List IOper} {l : Array Bool}
theorem toP_go (h : io.toP.go P σ K) : io.go P σ K := by
  rw [go_G] at h ⊢
  refine h.imp (fun ⟨h1, h2⟩ => ⟨h1, ?_⟩) id
  unfold IOper.act at h2 ⊢
  simp only [IOper.toP] at h2
  cases hop : io.op with
  | call f xs => rw [hop] at h2; exact callGo_of_P h2
  | _ => rw [hop] at h2; exact h2
theorem toX_go (h : io.toX.go P σ K) : io.go P σ K := by
  rw [go_G] at h ⊢
  refine h.imp (fun ⟨h1, h2⟩ => ⟨h1, ?_⟩) id
  unfold IOper.act at h2 ⊢
  simp only [IOper.toX] at h2
  cases hop : io.op with
  | call f xs => rw [hop] at h2; exact callGo_of_X h2
  | _ => rw [hop] at h2; exact h2
theorem toS_go {ts : List Nat} (h : (io.toS ts).go P σ K) : io.go P σ K := by
  rw [go_G] at h ⊢
  refine h.imp (fun ⟨h1, h2⟩ => ⟨h1, ?_⟩) id
  unfold IOper.act at h2 ⊢
  simp only [IOper.toS] at h2
  cases hop : io.op with
  | store n x y => rw [hop] at h2; exact h2.2
  | _ => rw [hop] at h2; exact h2

/-! What does not read the blocks. -/
theorem ev_heap (e : List (Nat × AV)) (H H' : List Blk) (x : Opd) : State.ev ⟨e, H⟩ x = State.ev ⟨e, H'⟩ x := by cases x <;> rfl
theorem evs_heap (e : List (Nat × AV)) (H H' : List Blk) : ∀ xs : List Opd, State.evs ⟨e, H⟩ xs = State.evs ⟨e, H'⟩ xs
  | [] => rfl
  | x :: xs => by simp only [State.evs, ev_heap e H H' x, evs_heap e H H' xs]
theorem bound_heap (e : List (Nat × AV)) (H H' : List Blk) (d : Nat) (x : Option Opd) : State.bound ⟨e, H⟩ d x = State.bound ⟨e, H'⟩ d x := by
  cases x with
  | none => rfl
  | some x => simp only [State.bound, ev_heap e H H' x]
theorem fill_heap (e : List (Nat × AV)) (H H' : List Blk) : ∀ (ps : List (Nat × Nat × Opd)) (cs : List AC), State.pure.fillC ⟨e, H⟩ cs ps = State.pure.fillC ⟨e, H'⟩ cs ps
  | [], _ => rfl
  | (o, n, x) :: ps, cs => by simp only [State.pure.fillC, ev_heap e H H' x, fill_heap e H H' ps]
theorem pure_heap (e : List (Nat × AV)) (H H' : List Blk) {op : IOp} (hl : op.isLoad = false) : State.pure ⟨e, H⟩ op = State.pure ⟨e, H'⟩ op := by
  cases op with
  | load n x => cases hl
  | slst k x lo hi m =>
    cases m with
    | none => simp only [State.pure, ev_heap e H H', bound_heap e H H']
    | some m =>
      cases hi with
      | none => rfl
      | some hi => simp only [State.pure, ev_heap e H H', bound_heap e H H']
  | _ => first | rfl | simp only [State.pure, ev_heap e H H', evs_heap e H H', bound_heap e H H', fill_heap e H H']
theorem opVal_heap (e : List (Nat × AV)) (H H' : List Blk) {op : IOp} (hl : op.isLoad = false) : opVal ⟨e, H⟩ op = opVal ⟨e, H'⟩ op := by
  cases op with
  | bsl a b c z ps => simp only [opVal, fill_heap e H H']
  | s2b a x => simp only [opVal, ev_heap e H H']
  | _ => exact pure_heap e H H' hl
theorem Yv_heap (e : List (Nat × AV)) (H H' : List Blk) {op : IOp} (hl : op.isLoad = false) {u : AV} (h : Yv P op ⟨e, H⟩ u) : Yv P op ⟨e, H'⟩ u := by
  unfold Yv at h ⊢
  split at h
  · obtain ⟨fid, caps, us, h1, h2, h3⟩ := h
    exact ⟨fid, caps, us, by rw [← h1]; exact ev_heap e H' H _, by rw [← h2]; exact evs_heap e H' H _, h3⟩
  · rw [opVal_heap e H' H hl]; exact h
theorem Y_env (hl : io.op.isLoad = false) (h : ∀ t ∈ io.reads, (look σ'.env t).map AV.share = (look σ.env t).map AV.share) (hy : Y P io v σ) : Y P io v σ' := by
  have h1 : Agr σ ⟨σ'.env, σ.heap⟩ io.reads := ⟨h, HSim.refl _⟩
  rcases Y_agr h1 hy with ⟨q1, u, q2, q3⟩ | ⟨q1, q2⟩
  · exact .inl ⟨q1, u, q2, Yv_heap σ'.env σ.heap σ'.heap hl q3⟩
  · exact .inr ⟨q1, q2⟩
theorem blkOf_share (u : AV) : blkOf u.share = blkOf u := by
  cases u with
  | c a =>
    cases a with
    | list lv e xs =>
      simp only [AV.share]
      unfold AC.share
      split <;> rfl
    | _ => rfl
  | _ => rfl
/-- A load from a block that is as it was. -/
theorem Y_load {n : Option Nat} {p : Nat} (hop : io.op = .load n (.t p)) (h : ∀ t ∈ io.reads, (look σ'.env t).map AV.share = (look σ.env t).map AV.share) (hb : ∀ id, (look σ.env p).bind blkOf = some id → σ'.heap[id]? = σ.heap[id]?) (hy : Y P io v σ) : Y P io v σ' := by
  have hG : ∀ b, io.G σ = some b → io.G σ' = some b := fun b hb => by
    have h1 : Agr σ ⟨σ'.env, σ.heap⟩ io.reads := ⟨h, HSim.refl _⟩
    have h2 := G_agr h1 hb
    exact h2
  rcases hy with ⟨q1, u, q2, q3⟩ | ⟨q1, q2⟩
  · refine .inl ⟨hG _ q1, u, q2, ?_⟩
    rw [hop] at q3 ⊢
    have hp := h p (by simp [IOper.reads, hop, IOp.reads, Opd.rd])
    change σ.pure (.load n (.t p)) = some u at q3
    change σ'.pure (.load n (.t p)) = some u
    simp only [State.pure, State.ev, hp] at q3 ⊢
    split at q3
    · rename_i x hx
      obtain ⟨y, hy, hyx⟩ := Option.map_eq_some_iff.1 hx
      have hblk : ∀ id, blkOf x = some id → σ'.heap[id]? = σ.heap[id]? := fun id hid => hb id (by rw [hy]; simpa [← hyx, blkOf_share] using hid)
      unfold State.rd at q3 ⊢
      split at q3
      · rename_i id off
        simp only [hblk id rfl]; exact q3
      · exact q3
      · rename_i id k i off
        simp only [hblk id rfl]; exact q3
      · cases q3
    · cases q3
  · exact .inr ⟨hG _ q1, q2⟩
/-- What a store tells of the other blocks. -/
theorem storeX_go {ts : List Nat} {m : Nat} {x y : Opd} (hop : io.op = .storeX ts m x y) (h : io.go P σ K) : io.go P σ fun σ' => K σ' ∧ ∀ t ∈ ts, ∀ id, (look σ.env t).bind blkOf = some id → σ'.heap[id]? = σ.heap[id]? := by
  rw [go_G] at h ⊢
  rcases h with ⟨h1, h2⟩ | ⟨h1, h2⟩
  · refine .inl ⟨h1, ?_⟩
    unfold IOper.act at h2 ⊢
    rw [hop] at h2 ⊢
    obtain ⟨q1, q2⟩ := h2
    refine ⟨q1, ?_⟩
    split at q2
    · rename_i τ hτ
      refine ⟨q2, fun t ht id hid => ?_⟩
      unfold State.apart at q1
      split at q1
      · rename_i id0 hid0
        have hne := List.all_eq_true.1 q1 t ht
        rw [hid] at hne
        have hne : id0 ≠ id := by
          have h3 : (id != id0) = true := hne
          intro e; subst e; simp at h3
        simp only [State.step] at hτ
        split at hτ
        · rename_i id1 off u e1 e2
          rw [e1] at hid0; obtain rfl := Option.some.inj hid0
          split at hτ
          · split at hτ
            · obtain rfl := Option.some.inj hτ; exact List.getElem?_set_ne hne
            · cases hτ
          · cases hτ
        · rename_i id1 k i off u e1 e2
          rw [e1] at hid0; obtain rfl := Option.some.inj hid0
          split at hτ
          · split at hτ
            · split at hτ
              · split at hτ
                · obtain rfl := Option.some.inj hτ; exact List.getElem?_set_ne hne
                · cases hτ
              · cases hτ
            · cases hτ
          · cases hτ
        · cases hτ
      · cases q1
    · exact q2.elim
  · refine .inr ⟨h1, h2, fun t _ id _ => ?_⟩
    cases io.dst <;> rfl
theorem Cl.set (h : Cl md ops l) {i : Nat} (hi : i ∈ Region.ready md ops l) : Cl md ops (l.setIfInBounds i true) := by
  obtain ⟨_, oi, hoi, hall⟩ := mem_ready.1 hi
  intro j oj hj hl e he hb
  by_cases hij : i = j
  · subst hij
    have : oj = oi := Option.some.inj (hj.symm.trans hoi)
    subst this
    exact getD_set_true (hall e he hb)
  · rw [getD_set_ne false hij] at hl
    exact getD_set_true (h j oj hj hl e he hb)
/-- What must stand ahead. -/
def DepP (md : Region.Mode) (ops : Array Oper) (es : List Edge) (i : Nat) : Prop := ∃ e ∈ es, Region.binds md e = true ∧ (e.on = i ∨ ∀ l, Cl md ops l → l.getD e.on false = true → l.getD i false = true)
theorem DepP.listed {j i : Nat} {oj : Oper} (hj : ops[j]? = some oj) (h : DepP md ops oj.after.toList i) : ∀ l, Cl md ops l → l.getD j false = true → l.getD i false = true := fun l hcl hl => by
  obtain ⟨e, he, hb, q⟩ := h
  have h1 := hcl j oj hj hl e (by simpa using he) hb
  rcases q with q | q
  · rw [← q]; exact h1
  · exact q l hcl h1
theorem ancB_ok {acc : List Nat} (hacc : ∀ j i, (acc.getD j 0).testBit i = true → ∃ oj, ops[j]? = some oj ∧ DepP md ops oj.after.toList i) : ∀ (es : List Edge) (i : Nat), (ancB md acc es).testBit i = true → DepP md ops es i := by
  intro es
  induction es with
  | nil => intro i h; simp [ancB] at h
  | cons e es ih =>
    intro i h
    have up : DepP md ops es i → DepP md ops (e :: es) i := fun ⟨e', h1, h2⟩ => ⟨e', List.mem_cons_of_mem _ h1, h2⟩
    simp only [ancB] at h
    split at h
    · rename_i hb
      simp only [Nat.testBit_or, Bool.or_eq_true] at h
      rcases h with (h | h) | h
      · exact up (ih i h)
      · refine ⟨e, by simp, hb, .inl ?_⟩
        rw [Nat.testBit_two_pow] at h; simpa using h
      · obtain ⟨oj, h1, h2⟩ := hacc _ _ h
        exact ⟨e, by simp, hb, .inr (h2.listed h1)⟩
    · exact up (ih i h)
theorem ancs_ok : ∀ (os pre : List Oper) (acc : List Nat), pre ++ os = ops.toList → acc.length = pre.length → (∀ j i, (acc.getD j 0).testBit i = true → ∃ oj, ops[j]? = some oj ∧ DepP md ops oj.after.toList i) →
    ∀ j i, ((ancs md os acc).getD j 0).testBit i = true → ∃ oj, ops[j]? = some oj ∧ DepP md ops oj.after.toList i := by
  intro os
  induction os with
  | nil => intro pre acc _ _ h; exact h
  | cons o os ih =>
    intro pre acc hp hl h
    refine ih (pre ++ [o]) _ (by simpa using hp) (by simp [hl]) fun j i hb => ?_
    by_cases hj : j < acc.length
    · rw [List.getD_eq_getElem?_getD, List.getElem?_append_left hj, ← List.getD_eq_getElem?_getD] at hb
      exact h j i hb
    · by_cases hj2 : j = acc.length
      · subst hj2
        have ho : ops[acc.length]? = some o := by
          rw [← Array.getElem?_toList, ← hp, hl]; simp
        refine ⟨o, ho, ancB_ok h _ i ?_⟩
        simpa [List.getD_eq_getElem?_getD] using hb
      · rw [List.getD_eq_getElem?_getD, List.getElem?_eq_none (by simp; omega)] at hb
        simp at hb
theorem dep_listed (h : Cl md ops l) {i j : Nat} (hl : l.getD j false = true) (hd : depB md ops j i = true) : l.getD i false = true := by
  obtain ⟨oj, h1, h2⟩ := ancs_ok (md := md) (ops := ops) ops.toList [] [] rfl rfl (by simp) j i hd
  exact h2.listed h1 l h hl
theorem dep_ready (h : Cl md ops l) {i j : Nat} (hj : j ∈ Region.ready md ops l) (hd : depB md ops j i = true) : l.getD i false = true := by
  obtain ⟨oj, h1, e, he, hb, q⟩ := ancs_ok (md := md) (ops := ops) ops.toList [] [] rfl rfl (by simp) j i hd
  obtain ⟨_, oj', hoj', hall⟩ := mem_ready.1 hj
  obtain rfl : oj' = oj := Option.some.inj (hoj'.symm.trans h1)
  have hl := hall e (by simpa using he) hb
  rcases q with q | q
  · rw [← q]; exact hl
  · exact q l h hl
theorem not_both {i : Nat} (h : l.getD i true = false) (h2 : l.getD i false = true) : False := by
  rcases Nat.lt_or_ge i l.size with h' | h'
  · simp [h'] at h h2; rw [h] at h2; cases h2
  · simp [Array.getElem?_eq_none h'] at h

/-- A float that stands ahead of an operation that may be done ahead of it. -/
theorem fly {jo : IOper} (hd : io.dst = some d) (hap : apB io jo = true) (hs : srtB σ.env = true) (hy : Y P io v σ) (hgo : jo.go P (σ.yl d v) K) : jo.go P σ fun σ' => K (σ'.yl d v) ∧ srtB σ'.env = true ∧ Y P io v σ' := by
  simp only [apB, hd] at hap
  simp only [Bool.and_eq_true, bne_iff_ne, ne_eq, Bool.not_eq_true', List.contains_eq_mem, decide_eq_false_iff_not] at hap
  obtain ⟨⟨⟨⟨h1, h2⟩, h3⟩, h4⟩, h5⟩ := hap
  have hsr : jo.op ≠ .srt := fun e => by rw [e] at h4; cases h4
  have henv : ∀ σ' : State, Swap σ σ' jo.dst → ∀ t ∈ io.reads, (look σ'.env t).map AV.share = (look σ.env t).map AV.share := fun σ' hsw t ht => hsw.env t (by
    intro e
    rw [e] at h3
    simp only [Bool.not_eq_true', decide_eq_false_iff_not] at h3
    exact h3 ht)
  have hg := go_swap hsr h1 h2 hs hgo
  by_cases hl : io.op.isLoad = true
  · cases hop : io.op with
    | load n x =>
      rw [hop] at h5
      by_cases hk : jo.op.keeps = true
      · exact IOper.go_mono jo (fun σ' hσ' => ⟨hσ'.1, hσ'.2.1.srt, Y_agr ⟨henv σ' hσ'.2.1, hσ'.2.2 hk⟩ hy⟩) hg
      · unfold heapB at h5
        split at h5
        · rename_i n' p ts m x' y' hj1 hj2
          injection hj1 with hj1 hj3
          subst hj3
          have hg := storeX_go hj2 hg
          refine IOper.go_mono jo (fun σ' hσ' => ⟨hσ'.1.1, hσ'.1.2.1.srt, Y_load hop (henv σ' hσ'.1.2.1) (fun id hid => hσ'.2 p (by simpa using h5) id hid) hy⟩) hg
        · rename_i hj; exact absurd h5 hk
        · rename_i hno _; exact absurd rfl (hno n x)
    | _ => rw [hop] at hl; cases hl
  · exact IOper.go_mono jo (fun σ' hσ' => ⟨hσ'.1, hσ'.2.1.srt, Y_env (by simpa using hl) (henv σ' hσ'.2.1) hy⟩) hg
theorem goAny_first {i : Nat} (hi : ios[i]? = some io) (hd : io.dst = some d) (hf : io.op.float = true) : ∀ (f : Nat) (l : Array Bool) (σ : State), Cl md ops l → srtB σ.env = true →
    (∀ j, j < ops.size → j ≠ i → l.getD j true = false → depB md ops j i = true ∨ ∃ jo, ios[j]? = some jo ∧ apB io jo = true) →
    i ∈ Region.ready md ops l → Y P io v σ → goAny P md ops ios K f (l.setIfInBounds i true) (σ.yl d v) → goAny P md ops ios K (f + 1) l σ := by
  intro f
  induction f with
  | zero =>
    intro l σ hcl hs hfree hr hy H
    refine ⟨fun h => (by rw [h] at hr; cases hr), fun j hj => ?_⟩
    by_cases hji : j = i
    · subst hji; exact ⟨io, hi, (go_Y hf hd).2 ⟨v, hy, H⟩⟩
    · have := ready_mono hj hji
      rw [H.1] at this
      cases this
  | succ f ih =>
    intro l σ hcl hs hfree hr hy H
    refine ⟨fun h => (by rw [h] at hr; cases hr), fun j hj => ?_⟩
    by_cases hji : j = i
    · subst hji; exact ⟨io, hi, (go_Y hf hd).2 ⟨v, hy, H⟩⟩
    · obtain ⟨hjun, oj, hoj, hall⟩ := mem_ready.1 hj
      have hjlt : j < ops.size := (Array.getElem?_eq_some_iff.1 hoj).1
      obtain ⟨jo', hjo', hgo⟩ := H.2 j (ready_mono hj hji)
      refine ⟨jo', hjo', ?_⟩
      rcases hfree j hjlt hji hjun with hdep | ⟨jo, hjo, hap⟩
      · exact (not_both (mem_ready.1 hr).1 (dep_ready hcl hj hdep)).elim
      · rw [hjo] at hjo'; obtain rfl := Option.some.inj hjo'
        refine IOper.go_mono jo (fun σ' hσ' => ?_) (fly hd hap hs hy hgo)
        obtain ⟨h1, h2, h3⟩ := hσ'
        refine ih (l.setIfInBounds j true) σ' (hcl.set hj) h2 (fun k hk hki hun => ?_) (ready_mono hr (Ne.symm hji)) h3 (by rw [Array.setIfInBounds_comm _ _ hji]; exact h1)
        refine hfree k hk hki ?_
        by_cases hjk : j = k
        · subst hjk; exact hjun
        · rw [getD_set_ne true hjk] at hun; exact hun

theorem goAny_ord : ∀ (ks : List Nat) (l : Array Bool) (σ : State), chk md ops ios ks l = true → Cl md ops l → srtB σ.env = true → goOps P (ks.filterMap (ios[·]?)) σ K → goAny P md ops ios K ks.length l σ
  | [], l, σ, hc, _, _, h => ⟨by simpa [chk] using hc, h⟩
  | k :: ks, l, σ, hc, hcl, hs, h => by
    simp only [chk, Bool.and_eq_true] at hc
    obtain ⟨hc1, hc2⟩ := hc
    split at hc1
    · rename_i io hio
      simp only [List.filterMap_cons, hio] at h
      simp only [goOps] at h
      have h := go_srt hs h
      simp only [Bool.or_eq_true, decide_eq_true_eq, Bool.and_eq_true] at hc1
      rcases hc1 with hc1 | ⟨hr, hfl⟩
      · have hk : k ∈ Region.ready md ops l := by rw [hc1]; simp
        refine ⟨fun h0 => (by rw [h0] at hk; cases hk), fun i hi => ?_⟩
        rw [hc1] at hi
        obtain rfl : i = k := by simpa using hi
        exact ⟨io, hio, IOper.go_mono io (fun σ' hσ' => goAny_ord ks _ σ' hc2 (hcl.set hk) hσ'.2 hσ'.1) h⟩
      · have hk : k ∈ Region.ready md ops l := by simpa using hr
        simp only [flB, IOper.float, Bool.and_eq_true] at hfl
        obtain ⟨⟨hf, hds⟩, hall⟩ := hfl
        obtain ⟨d, hd⟩ := Option.isSome_iff_exists.1 hds
        obtain ⟨v, hy, h1, h2⟩ := (go_Y hf hd).1 h
        refine goAny_first hio hd hf ks.length l σ hcl hs (fun j hj hji hun => ?_) hk hy (goAny_ord ks _ _ hc2 (hcl.set hk) h2 h1)
        have := List.all_eq_true.1 hall j (List.mem_range.2 hj)
        simp only [Bool.or_eq_true, beq_iff_eq, hji, hun, Bool.false_eq_true, or_false, false_or] at this
        rcases this with this | this
        · exact .inl this
        · split at this
          · rename_i jo hjo
            exact .inr ⟨jo, hjo, this⟩
          · cases this
    · cases hc1

theorem op_sound {o : Oper} {i : Nat} {x : IOper} (hi : ops[i]? = some o) (hx : cOper P tk n ops o = some x) {K : State → Prop} (hgo : x.go P σ K) (h : St E n σ a w g) {next : Act → World → Prop} {Q : Exit → Act → World → Prop}
    (hnext : ∀ σ' a' w' g', K σ' → St E n σ' a' w' g' → next a' w') : wpOp P ops Q i next a w := by
  unfold wpOp
  simp only [hi]
  have hdstio : x.dst = o.dst ∧ ((o.guard = none ∧ x.guard = none) ∨ ∃ j want t, o.guard = some (j, want) ∧ x.guard = some (t, want) ∧ (ops[j]?).bind (·.dst) = some t) := by
    have hx' := hx
    unfold cOper at hx'
    split at hx'
    · split at hx'
      · split at hx'
        · rename_i hg; obtain rfl := Option.some.inj hx'; exact ⟨rfl, .inl ⟨hg, rfl⟩⟩
        · rename_i j want hg
          split at hx'
          · rename_i t ht; obtain rfl := Option.some.inj hx'; exact ⟨rfl, .inr ⟨j, want, t, hg, rfl, ht⟩⟩
          · cases hx'
      · cases hx'
    · cases hx'
  obtain ⟨hdst, hguard⟩ := hdstio
  have hdn : ∀ d, x.dst = some d → d < n := fun d hd => by
    have hx' := hx
    unfold cOper at hx'
    split at hx'
    · split at hx'
      · rename_i hok; rw [hdst] at hd; simpa [dstOk, hd] using hok
      · cases hx'
    · cases hx'
  unfold IOper.go at hgo
  rcases hguard with ⟨hg1, hg2⟩ | ⟨j, want, t, hg1, hg2, ht⟩
  · rw [hg2] at hgo
    have hw : Region.wanted o (yielded ops a.tmps) = true := by simp [Region.wanted, hg1]
    rw [if_pos hw]
    exact .inl (act_sound h hx hgo hnext)
  · rw [hg2] at hgo
    simp only at hgo
    split at hgo
    · rename_i b hb
      obtain ⟨htn, hr⟩ := h.env t _ hb
      have hbv := hr.c_inv.bool_inv
      have hts : a.tmps[t]? = some (.bool b) := by
        have hlt : t < a.tmps.size := by rw [h.size]; exact htn
        rw [Array.getElem?_eq_getElem hlt]
        simpa [Array.getD_eq_getD_getElem?, Array.getElem?_eq_getElem hlt] using hbv
      have hy : yielded ops a.tmps j = some b := by
        simp [yielded, ht, hts]
      split at hgo
      · rename_i hbw
        have hw : Region.wanted o (yielded ops a.tmps) = true := by simp [Region.wanted, hg1, hy, hbw]
        rw [if_pos hw]
        exact .inl (act_sound h hx hgo hnext)
      · rename_i hbw
        have hw : ¬ Region.wanted o (yielded ops a.tmps) = true := by simp [Region.wanted, hg1, hy, hbw]
        rw [if_neg hw, ← hdst]
        exact hnext _ _ _ _ hgo (State.skip h hdn)
    · rename_i hb
      obtain ⟨htn, hr⟩ := h.env t _ hb
      have hbv := VRel.tup_nil hr
      have hts : a.tmps[t]? = some (.tuple #[]) := by
        have hlt : t < a.tmps.size := by rw [h.size]; exact htn
        rw [Array.getElem?_eq_getElem hlt]
        simpa [Array.getD_eq_getD_getElem?, Array.getElem?_eq_getElem hlt] using hbv
      have hy : yielded ops a.tmps j = none := by
        simp [yielded, ht, hts]
      have hw : ¬ Region.wanted o (yielded ops a.tmps) = true := by simp [Region.wanted, hg1, hy]
      rw [if_neg hw, ← hdst]
      exact hnext _ _ _ _ hgo (State.skip h hdn)
    · exact hgo.elim
theorem goAny_sound {Q : Exit → Act → World → Prop} (hc : ∀ (i : Nat) (o : Oper), ops[i]? = some o → ∀ io : IOper, ios[i]? = some io → ∃ x, cOper P tk n ops o = some x ∧ ∀ (σ : State) (K : State → Prop), io.go P σ K → x.go P σ K) (hQ : ∀ σ a w g, K σ → St E n σ a w g → Q .normal a w) :
    ∀ (f : Nat) (l : Array Bool) (σ : State) (a : Act) (w : World) (g : Gh), goAny P md ops ios K f l σ → St E n σ a w g → wpAny P md ops Q f l a w
  | 0, l, σ, a, w, g, h, hst => ⟨h.1, hQ _ _ _ _ h.2 hst⟩
  | f + 1, l, σ, a, w, g, h, hst => by
    refine ⟨fun h0 => hQ _ _ _ _ (h.1 h0) hst, fun i hi => ?_⟩
    obtain ⟨io, hio, hgo⟩ := h.2 i hi
    obtain ⟨_, o, ho, _⟩ := mem_ready.1 hi
    obtain ⟨x, hx, himp⟩ := hc i o ho io hio
    exact op_sound ho hx (himp _ _ hgo) hst fun σ' a' w' g' hk hst' => goAny_sound hc hQ f _ σ' a' w' g' hk hst'
theorem St.drew (h : St E n σ a w g) : St E n σ a { w with drawn := w.drawn + 1 } g := by
  have e : GExt (fun _ => False) w g { w with drawn := w.drawn + 1 } g := ⟨⟨rfl, rfl, rfl, Nat.le_refl _, fun _ _ _ => rfl, fun _ _ _ => rfl, fun _ _ _ _ h => h, fun _ => Nat.le_refl _⟩, Nat.le_refl _, fun _ _ => rfl, fun _ _ => rfl⟩
  exact h.ext e rfl (fun _ _ h => h.elim) (fun _ _ _ _ h => h) (fun b p hb hp => ⟨fun h => h, hp⟩) (fun b hb hp _ => hp) (fun _ _ h => h.elim) (fun b hb => h.heap.lim b hb)

/-- Calls as calls that read alone, but for the listed ones (i: any call; i + 1000: one that leaves the blocks that there are); stores that are apart from addresses in slots (100000 (i + 1) + slot). -/
def markOf (hv : List Nat) (i : Nat) (io : IOper) : IOper :=
  if hv.contains i then io else if hv.contains (i + 1000) then io.toX else
    match hv.filter fun e => e / 100000 == i + 1 with
    | [] => io.toP
    | ts => io.toS (ts.map (· % 100000))
def markP : Nat → List Nat → List IOper → List IOper
  | _, _, [] => []
  | i, hv, io :: l => markOf hv i io :: markP (i + 1) hv l
theorem markOf_go {hv : List Nat} {i : Nat} {P : Program} {σ : State} {K : State → Prop} {io : IOper} (h : (markOf hv i io).go P σ K) : io.go P σ K := by
  unfold markOf at h
  split at h
  · exact h
  · split at h
    · exact toX_go h
    · split at h
      · exact toP_go h
      · exact toS_go h
theorem markP_get : ∀ (l : List IOper) (i : Nat) (hv : List Nat) (k : Nat) (io : IOper), (markP i hv l)[k]? = some io → ∃ x, l[k]? = some x ∧ ∀ (P : Program) (σ : State) (K : State → Prop), io.go P σ K → x.go P σ K
  | [], _, _, k, io, h => by simp [markP] at h
  | y :: l, i, hv, 0, io, h => by
    simp only [markP, List.getElem?_cons_zero, Option.some.injEq] at h
    subst h
    exact ⟨y, rfl, fun P σ K h => markOf_go h⟩
  | y :: l, i, hv, k + 1, io, h => by
    simp only [markP, List.getElem?_cons_succ] at h
    simpa using markP_get l (i + 1) hv k io h
theorem cOpers_get {n : Nat} : ∀ (l : List Oper) (ios : List IOper), cOpers P tk n ops l = some ios → ∀ (k : Nat) (o : Oper), l[k]? = some o → ∃ x, ios[k]? = some x ∧ cOper P tk n ops o = some x
  | [], ios, h, k, o, ho => by simp at ho
  | y :: l, ios, h, k, o, ho => by
    simp only [cOpers] at h
    split at h
    · rename_i x xs hx hxs
      obtain rfl := Option.some.inj h
      cases k with
      | zero => simp only [List.getElem?_cons_zero, Option.some.injEq] at ho; subst ho; exact ⟨x, rfl, hx⟩
      | succ k => simpa using cOpers_get l xs hxs k o (by simpa using ho)
    · cases h
theorem draw_sound {id : Nat} {Q : Exit → Act → World → Prop} {ios0 : List IOper} {ord hv : List Nat} (hcs : cOpers P tk n ops ops.toList = some ios0) (hm : P.follows .mixedOrders = true)
    (hk : chk .any ops (markP 0 hv ios0) ord (Array.replicate ops.size false) = true) (hlen : ord.length = ops.size) (hgo : goOps P (⟨none, .srt, none⟩ :: ord.filterMap ((markP 0 hv ios0)[·]?)) σ K)
    (hQ : ∀ σ a w g, K σ → St E n σ a w g → Q .normal a w) (h : St E n σ a w g) : (Code.region id ops true).wp P Q a w := by
  refine wp_region_any hm ?_
  have hs : srtB σ.env = true ∧ goOps P (ord.filterMap ((markP 0 hv ios0)[·]?)) σ K := by
    simp only [goOps, IOper.go, IOper.act, State.step] at hgo
    split at hgo
    · rename_i s hs
      split at hs
      · rename_i hsr; obtain rfl := Option.some.inj hs; exact ⟨hsr, hgo⟩
      · cases hs
    · exact hgo.elim
  have hcl : Cl .any ops (Array.replicate ops.size false) := fun j oj hj hl => by
    rcases Nat.lt_or_ge j ops.size with h | h
    · simp [h] at hl
    · simp [Nat.not_lt.2 h] at hl
  have := goAny_ord ord _ σ hk hcl hs.1 hs.2
  rw [hlen] at this
  refine goAny_sound (tk := tk) (E := E) (fun i o ho io hio => ?_) hQ _ _ σ a _ g this h.drew
  obtain ⟨x, hx, hxx⟩ := markP_get _ _ _ _ _ hio
  obtain ⟨x', hx', hc'⟩ := cOpers_get _ _ hcs i o (by simpa using ho)
  rw [hx] at hx'; obtain rfl := Option.some.inj hx'
  exact ⟨x, hc', fun σ K hg => hxx P σ K hg⟩
/-! ### Regions that are walked in several orders -/
inductive OT where
  | nil
  | one (k : Nat) (t : OT)
  | both (a b : OT)
def parseO : Nat → List Nat → OT
  | 0, _ => .nil
  | _ + 1, [] => .nil
  | f + 1, k :: r => if k = 9999 then match r with
      | n :: r => .both (parseO f (r.take n)) (parseO f (r.drop n))
      | [] => .nil
    else .one k (parseO f r)
inductive OpT where
  | nil
  | op (o : IOper) (t : OpT)
  | both (a b : OpT)
def OT.build (ios : List IOper) : OT → OpT
  | .nil => .nil
  | .one k t => match ios[k]? with
    | some io => .op io (t.build ios)
    | none => .nil
  | .both a b => .both (a.build ios) (b.build ios)
def goT (P : Program) : OpT → State → (State → Prop) → Prop
  | .nil, σ, K => K σ
  | .op o t, σ, K => o.go P σ fun σ' => goT P t σ' K
  | .both a b, σ, K => goT P a σ K ∧ goT P b σ K
def OT.hsz : OT → Nat → Bool
  | .nil, f => f == 0
  | .one _ t, f => match f with
    | 0 => false
    | f + 1 => t.hsz f
  | .both a b, f => a.hsz f && b.hsz f
def chkT (md : Region.Mode) (ops : Array Oper) (ios : List IOper) : OT → Option Nat → Array Bool → Bool
  | .nil, none, l => (Region.ready md ops l).isEmpty
  | .nil, some _, _ => false
  | .one k t, none, l => (match ios[k]? with
      | some io => decide (Region.ready md ops l = [k]) || ((Region.ready md ops l).contains k && flB md ops ios l k io)
      | none => false) && chkT md ops ios t none (l.setIfInBounds k true)
  | .one k t, some i, l => k == i && (ios[k]?).isSome && chkT md ops ios t none (l.setIfInBounds k true)
  | .both a b, none, l => !(Region.ready md ops l).isEmpty && (Region.ready md ops l).all fun i => chkT md ops ios a (some i) l || chkT md ops ios b (some i) l
  | .both a b, some i, l => chkT md ops ios a (some i) l || chkT md ops ios b (some i) l
theorem goAny_T : ∀ (t : OT) (f : Nat) (l : Array Bool) (σ : State), t.hsz f = true → Cl md ops l → srtB σ.env = true → goT P (t.build ios) σ K →
    (chkT md ops ios t none l = true → goAny P md ops ios K f l σ) ∧ ∀ i, i ∈ Region.ready md ops l → chkT md ops ios t (some i) l = true → ∃ f', f = f' + 1 ∧ ∃ io, ios[i]? = some io ∧ io.go P σ (goAny P md ops ios K f' (l.setIfInBounds i true)) := by
  intro t
  induction t with
  | nil =>
    intro f l σ hz hcl hs h
    obtain rfl : f = 0 := by simpa [OT.hsz] using hz
    exact ⟨fun hc => ⟨by simpa [chkT] using hc, h⟩, fun i _ hc => by simp [chkT] at hc⟩
  | one k t ih =>
    intro f l σ hz hcl hs h
    cases f with
    | zero => simp [OT.hsz] at hz
    | succ f =>
      have hz : t.hsz f = true := hz
      refine ⟨fun hc => ?_, fun i hi hc => ?_⟩
      · simp only [chkT, Bool.and_eq_true] at hc
        obtain ⟨hc1, hc2⟩ := hc
        split at hc1
        · rename_i io hio
          simp only [OT.build, hio, goT] at h
          have h := go_srt hs h
          simp only [Bool.or_eq_true, decide_eq_true_eq, Bool.and_eq_true] at hc1
          rcases hc1 with hc1 | ⟨hr, hfl⟩
          · have hk : k ∈ Region.ready md ops l := by rw [hc1]; simp
            refine ⟨fun h0 => (by rw [h0] at hk; cases hk), fun i hi => ?_⟩
            rw [hc1] at hi
            obtain rfl : i = k := by simpa using hi
            exact ⟨io, hio, IOper.go_mono io (fun σ' hσ' => (ih f _ σ' hz (hcl.set hk) hσ'.2 hσ'.1).1 hc2) h⟩
          · have hk : k ∈ Region.ready md ops l := by simpa using hr
            simp only [flB, IOper.float, Bool.and_eq_true] at hfl
            obtain ⟨⟨hf, hds⟩, hall⟩ := hfl
            obtain ⟨d, hd⟩ := Option.isSome_iff_exists.1 hds
            obtain ⟨v, hy, h1, h2⟩ := (go_Y hf hd).1 h
            refine goAny_first hio hd hf f l σ hcl hs (fun j hj hji hun => ?_) hk hy ((ih f _ _ hz (hcl.set hk) h2 h1).1 hc2)
            have := List.all_eq_true.1 hall j (List.mem_range.2 hj)
            simp only [Bool.or_eq_true, beq_iff_eq, hji, hun, Bool.false_eq_true, or_false, false_or] at this
            rcases this with this | this
            · exact .inl this
            · split at this
              · rename_i jo hjo
                exact .inr ⟨jo, hjo, this⟩
              · cases this
        · cases hc1
      · simp only [chkT, Bool.and_eq_true, beq_iff_eq] at hc
        obtain ⟨⟨rfl, hsome⟩, hc2⟩ := hc
        obtain ⟨io, hio⟩ := Option.isSome_iff_exists.1 hsome
        simp only [OT.build, hio, goT] at h
        have h := go_srt hs h
        exact ⟨f, rfl, io, hio, IOper.go_mono io (fun σ' hσ' => (ih f _ σ' hz (hcl.set hi) hσ'.2 hσ'.1).1 hc2) h⟩
  | both a b iha ihb =>
    intro f l σ hz hcl hs h
    simp only [OT.hsz, Bool.and_eq_true] at hz
    have ha := iha f l σ hz.1 hcl hs h.1
    have hb := ihb f l σ hz.2 hcl hs h.2
    have br : ∀ i, i ∈ Region.ready md ops l → chkT md ops ios a (some i) l || chkT md ops ios b (some i) l → ∃ f', f = f' + 1 ∧ ∃ io, ios[i]? = some io ∧ io.go P σ (goAny P md ops ios K f' (l.setIfInBounds i true)) := fun i hi hc => by
      rcases Bool.or_eq_true _ _ ▸ hc with hc | hc
      · exact ha.2 i hi hc
      · exact hb.2 i hi hc
    refine ⟨fun hc => ?_, fun i hi hc => br i hi (by simpa [chkT] using hc)⟩
    simp only [chkT, Bool.and_eq_true, Bool.not_eq_true', List.all_eq_true] at hc
    have hne : Region.ready md ops l ≠ [] := fun e => by rw [e] at hc; simp at hc
    cases f with
    | zero =>
      obtain ⟨i, hi⟩ := List.exists_mem_of_ne_nil _ hne
      obtain ⟨f', h0, _⟩ := br i hi (hc.2 i hi)
      omega
    | succ f =>
      refine ⟨fun h0 => (hne h0).elim, fun i hi => ?_⟩
      obtain ⟨f', h0, q⟩ := br i hi (hc.2 i hi)
      obtain rfl : f = f' := by omega
      exact q
theorem draw_soundT {id : Nat} {Q : Exit → Act → World → Prop} {ios0 : List IOper} {t : OT} {hv : List Nat} (hcs : cOpers P tk n ops ops.toList = some ios0) (hm : P.follows .mixedOrders = true)
    (hk : chkT .any ops (markP 0 hv ios0) t none (Array.replicate ops.size false) = true) (hlen : t.hsz ops.size = true) (hgo : goT P (.op ⟨none, .srt, none⟩ (t.build (markP 0 hv ios0))) σ K)
    (hQ : ∀ σ a w g, K σ → St E n σ a w g → Q .normal a w) (h : St E n σ a w g) : (Code.region id ops true).wp P Q a w := by
  refine wp_region_any hm ?_
  have hs : srtB σ.env = true ∧ goT P (t.build (markP 0 hv ios0)) σ K := by
    simp only [goT, IOper.go, IOper.act, State.step] at hgo
    split at hgo
    · rename_i s hs
      split at hs
      · rename_i hsr; obtain rfl := Option.some.inj hs; exact ⟨hsr, hgo⟩
      · cases hs
    · exact hgo.elim
  have hcl : Cl .any ops (Array.replicate ops.size false) := fun j oj hj hl => by
    rcases Nat.lt_or_ge j ops.size with h | h
    · simp [h] at hl
    · simp [Nat.not_lt.2 h] at hl
  have := (goAny_T t _ _ σ hlen hcl hs.1 hs.2).1 hk
  refine goAny_sound (tk := tk) (E := E) (fun i o ho io hio => ?_) hQ _ _ σ a _ g this h.drew
  obtain ⟨x, hx, hxx⟩ := markP_get _ _ _ _ _ hio
  obtain ⟨x', hx', hc'⟩ := cOpers_get _ _ hcs i o (by simpa using ho)
  rw [hx] at hx'; obtain rfl := Option.some.inj hx'
  exact ⟨x, hc', fun σ K hg => hxx P σ K hg⟩
theorem goT_mono : ∀ (t : OpT) {KS KS' : State → Prop} (h : ∀ s, KS s → KS' s) {σ : State} (hg : goT P t σ KS), goT P t σ KS' := by
  intro t
  induction t with
  | nil => intro KS KS' h σ hg; exact h _ hg
  | op o t ih => intro KS KS' h σ hg; exact IOper.go_mono o (fun s hs => ih h hs) hg
  | both a b iha ihb => intro KS KS' h σ hg; exact ⟨iha h hg.1, ihb h hg.2⟩
end
end Go.AI

set_option linter.unusedVariables false
set_option linter.unusedSimpArgs false
namespace Go.AI
open Go Go.RowKit Go.Lib

/-! ### Code -/
inductive AX where
  | n
  | x (id : Nat)
  | r
inductive IR where
  | ghost (l : List Ghost)
  | regionT (t : OpT) (ks : List Nat)
  | skip
  | region (ops : List IOper) (ks : List Nat)
  | seq (a b : IR)
  | cond (c : Opd) (a b : IR)
  | block (id : Nat) (b : IR)
  | loop (ks : List Nat) (b : IR)
  | exit (id : Nat)
  | ret

def State.kill (σ : State) (ks : List Nat) : State := ⟨AI.kill σ.env ks, σ.heap⟩
/-- Where a loop's round goes on. -/
def lpX (X : State → Prop) (K : AX → State → Prop) : AX → State → Prop
  | .n, σ => X σ
  | e, σ => K e σ
def IR.go (P : Program) : IR → State → (AX → State → Prop) → Prop
  | .ghost l, σ, K => match σ.ghosts l with
    | some σ' => K .n σ'
    | none => False
  | .regionT t ks, σ, K => goT P t σ fun σ' => K .n (σ'.kill ks)
  | .skip, σ, K => K .n σ
  | .region ops ks, σ, K => goOps P ops σ fun σ' => K .n (σ'.kill ks)
  | .seq a b, σ, K => a.go P σ fun
    | .n, σ' => b.go P σ' K
    | e, σ' => K e σ'
  | .cond c a b, σ, K => match σ.ev c with
    | some (.c (.bool t)) => if t then a.go P σ K else b.go P σ K
    | _ => False
  | .block id b, σ, K => b.go P σ fun
    | .x i, σ' => if i = id then K .n σ' else K (.x i) σ'
    | e, σ' => K e σ'
  | .loop ks b, σ, K => ∀ X : State → Prop, (∀ s, b.go P (s.kill ks) (lpX X K) → X s) → X σ
  | .exit id, σ, K => K (.x id) σ
  | .ret, σ, K => K .r σ

/-- What is forgotten behind a region, and at the head of the loop in a block; which slots take what they are given. -/
structure Ann where
  tk : List Nat
  ro : List (Nat × List Nat × List Nat)
  rk : List (Nat × List Nat)
  lk : List (Nat × List Nat)
def assoc (l : List (Nat × List Nat)) (i : Nat) : List Nat :=
  match l with
  | [] => []
  | (j, ks) :: r => if j = i then ks else assoc r i
/-- Ghosts, written as numbers: below 1000000 a slot; else 1000000 + 1000 times a slot and a cell of the block that it points to. -/
def ghOf (n : Nat) : Ghost := if n < 1000000 then .slot n else .cell ((n - 1000000) / 1000) ((n - 1000000) % 1000)
def ghosts (l : List (Nat × List Nat)) (id : Nat) (r : IR) : IR :=
  match assoc l (1000000 + id) with
  | [] => r
  | k :: ks => .seq r (.ghost ((k :: ks).map ghOf))
def assocO (l : List (Nat × List Nat × List Nat)) (i : Nat) : List Nat × List Nat :=
  match l with
  | [] => ([], [])
  | (j, p) :: r => if j = i then p else assocO r i
def drawn (P : Program) (ops : Array Oper) (ord hv : List Nat) (ios : List IOper) : Option (List IOper) :=
  if P.follows .mixedOrders && decide (ord.length = ops.size) && chk .any ops (markP 0 hv ios) ord (Array.replicate ops.size false) then some (⟨none, .srt, none⟩ :: ord.filterMap ((markP 0 hv ios)[·]?)) else none
def drawnT (P : Program) (ops : Array Oper) (ord hv : List Nat) (ios : List IOper) : Option OpT :=
  if P.follows .mixedOrders && (parseO 200 ord).hsz ops.size && chkT .any ops (markP 0 hv ios) (parseO 200 ord) none (Array.replicate ops.size false) then some (.op ⟨none, .srt, none⟩ ((parseO 200 ord).build (markP 0 hv ios))) else none
def cIR (P : Program) (A : Ann) (n : Nat) : Nat → Code → Option IR
  | _, .skip => some .skip
  | _, .label _ => some .skip
  | _, .region id ops false => (cOpers P A.tk n ops ops.toList).map fun o => ghosts A.rk id (.region o (assoc A.rk id))
  | _, .region id ops true => if (assocO A.ro id).1.contains 9999 then ((cOpers P A.tk n ops ops.toList).bind (drawnT P ops (assocO A.ro id).1 (assocO A.ro id).2)).map fun o => ghosts A.rk id (.regionT o (assoc A.rk id))
    else ((cOpers P A.tk n ops ops.toList).bind (drawn P ops (assocO A.ro id).1 (assocO A.ro id).2)).map fun o => ghosts A.rk id (.region o (assoc A.rk id))
  | b, .seq x y => match cIR P A n b x, cIR P A n b y with
    | some x, some y => some (.seq x y)
    | _, _ => none
  | b, .cond c x y => match cOpd P 0 c, cIR P A n b x, cIR P A n b y with
    | some c, some x, some y => some (.cond c x y)
    | _, _, _ => none
  | _, .block id x => (cIR P A n id x).map (.block id)
  | b, .loop x => (cIR P A n b x).map (.loop (assoc A.lk b))
  | b, .scope x => cIR P A n b x
  | _, .exit id => some (.exit id)
  | _, .ret => some .ret
  | _, _ => none

def Post (E : Entry) (n : Nat) (K : AX → State → Prop) : Exit → Act → World → Prop
  | .normal, a, w => ∃ σ g, K .n σ ∧ St E n σ a w g
  | .exit id, a, w => ∃ σ g, K (.x id) σ ∧ St E n σ a w g
  | .ret, a, w => ∃ σ g, K .r σ ∧ St E n σ a w g
  | _, _, _ => False

/-- A loop, behind the head of a round. -/
def LoopW (P : Program) (c : Code) (Q : Exit → Act → World → Prop) (a : Act) (w : World) : Prop :=
  ∀ b k cs, ∃ e a' w', Q e a' w' ∧ Arrives P (lone (b.at a (.code c :: .inLoop c :: k)) cs w) b k cs e a' w'
theorem LoopW.round {P : Program} {c : Code} {Q : Exit → Act → World → Prop} {a : Act} {w : World} (h : c.wp P (Exit.then (LoopW P c Q) Q) a w) : LoopW P c Q a w := by
  intro b k cs
  obtain ⟨e, a₁, w₁, hq, harr⟩ := h b (.inLoop c :: k) cs
  cases e with
  | normal =>
    obtain ⟨e₂, a₂, w₂, hq₂, harr₂⟩ := hq b k cs
    exact ⟨e₂, a₂, w₂, hq₂, .of_steps (Steps.trans harr (.one step_inLoop)) harr₂⟩
  | exit id => exact ⟨_, a₁, w₁, hq, .pass (x := .inLoop c) rfl (fun _ _ => .inl (by simp)) harr⟩
  | goto l => exact ⟨_, a₁, w₁, hq, .pass (x := .inLoop c) rfl (fun _ _ => .inl (by simp)) harr⟩
  | ret => exact ⟨_, a₁, w₁, hq, .pass (x := .inLoop c) rfl (fun _ _ => .inl (by simp)) harr⟩
  | panic ch => exact ⟨_, a₁, w₁, hq, .pass (x := .inLoop c) rfl (fun _ _ => .inl (by simp)) harr⟩
  | outgrown => exact ⟨_, a₁, w₁, hq, .pass (x := .inLoop c) rfl (fun _ _ => .inl (by simp)) harr⟩
theorem LoopW.loop {P : Program} {c : Code} {Q : Exit → Act → World → Prop} {a : Act} {w : World} (h : LoopW P c Q a w) : (Code.loop c).wp P Q a w := by
  intro b k cs
  obtain ⟨e, a', w', hq, harr⟩ := h b k cs
  exact ⟨e, a', w', hq, .of_steps (.one step_loop) harr⟩
theorem ghosts_wp {P : Program} {A : Ann} {E : Entry} {n id : Nat} {r : IR} {c : Code} {K : AX → State → Prop} {σ : State} {a : Act} {w : World} (hr : ∀ (K : AX → State → Prop), r.go P σ K → c.wp P (Post E n K) a w) (hgo : (ghosts A.rk id r).go P σ K) : c.wp P (Post E n K) a w := by
  unfold ghosts at hgo
  split at hgo
  · exact hr K hgo
  · rename_i k ks hk
    refine wp_mono (hr _ hgo) fun e a' w' hp => ?_
    cases e with
    | normal =>
      obtain ⟨σ', g', hg, hst⟩ := hp
      have hg' : (IR.ghost ((k :: ks).map ghOf)).go P σ' K := hg
      simp only [IR.go] at hg'
      split at hg'
      · rename_i s hs
        obtain ⟨g2, h2⟩ := ghosts_sound _ hst hs
        exact ⟨s, g2, hg', h2⟩
      · exact hg'.elim
    | exit i => exact hp
    | ret => exact hp
    | goto l => exact hp.elim
    | panic ch => exact hp.elim
    | outgrown => exact hp.elim

theorem IR.sound {P : Program} {A : Ann} {E : Entry} {n : Nat} : ∀ (c : Code) (b : Nat) (ir : IR) (σ : State) (K : AX → State → Prop) (a : Act) (w : World) (g : Gh), cIR P A n b c = some ir → ir.go P σ K → St E n σ a w g → c.wp P (Post E n K) a w := by
  intro c
  induction c with
  | skip =>
    intro b ir σ K a w g hc hgo h
    obtain rfl := Option.some.inj hc
    exact wp_skip ⟨σ, g, hgo, h⟩
  | label l =>
    intro b ir σ K a w g hc hgo h
    obtain rfl := Option.some.inj hc
    exact wp_label ⟨σ, g, hgo, h⟩
  | region id ops draw =>
    intro b ir σ K a w g hc hgo h
    cases draw with
    | true =>
      simp only [cIR] at hc
      split at hc
      · obtain ⟨ios', hd, rfl⟩ := Option.map_eq_some_iff.1 hc
        refine ghosts_wp (fun K hgo => ?_) hgo
        obtain ⟨ios, hios, hd⟩ := Option.bind_eq_some_iff.1 hd
        unfold drawnT at hd
        split at hd
        · rename_i hk
          obtain rfl := Option.some.inj hd
          simp only [Bool.and_eq_true] at hk
          exact draw_soundT (K := fun σ' => K .n (σ'.kill (assoc A.rk id))) hios hk.1.1 hk.2 hk.1.2 hgo (fun σ' a' w' g' hk hst => ⟨_, g', hk, hst.kill _⟩) h
        · cases hd
      obtain ⟨ios', hd, rfl⟩ := Option.map_eq_some_iff.1 hc
      refine ghosts_wp (fun K hgo => ?_) hgo
      obtain ⟨ios, hios, hd⟩ := Option.bind_eq_some_iff.1 hd
      unfold drawn at hd
      split at hd
      · rename_i hk
        obtain rfl := Option.some.inj hd
        simp only [Bool.and_eq_true, decide_eq_true_eq] at hk
        exact draw_sound (K := fun σ' => K .n (σ'.kill (assoc A.rk id))) hios hk.1.1 hk.2 hk.1.2 hgo (fun σ' a' w' g' hk hst => ⟨_, g', hk, hst.kill _⟩) h
      · cases hd
    | false =>
      obtain ⟨ios, hios, rfl⟩ := Option.map_eq_some_iff.1 hc
      refine ghosts_wp (fun K hgo => ?_) hgo
      refine wp_region ?_
      rw [List.range_eq_range']
      have hs : ops.size = ops.toList.length := by simp
      rw [hs]
      exact goOps_sound (K := fun σ' => K .n (σ'.kill (assoc A.rk id))) (fun σ' a' w' g' hk hst => ⟨_, g', hk, hst.kill _⟩) ops.toList 0 ios σ a w g (by simp) hios hgo h
  | seq x y ihx ihy =>
    intro b ir σ K a w g hc hgo h
    simp only [cIR] at hc
    split at hc
    · rename_i x' y' hx hy
      obtain rfl := Option.some.inj hc
      refine wp_seq (wp_mono (ihx b x' σ _ a w g hx hgo h) fun e a' w' hp => ?_)
      cases e with
      | normal => obtain ⟨σ', g', hk, hst⟩ := hp; exact ihy b y' σ' K a' w' g' hy hk hst
      | exit id => exact hp
      | ret => exact hp
      | goto l => exact hp.elim
      | panic ch => exact hp.elim
      | outgrown => exact hp.elim
    · cases hc
  | cond c x y ihx ihy =>
    intro b ir σ K a w g hc hgo h
    simp only [cIR] at hc
    split at hc
    · rename_i c' x' y' hcc hx hy
      obtain rfl := Option.some.inj hc
      simp only [IR.go] at hgo
      split at hgo
      · rename_i t ht
        have e := (ev_rel h hcc ht 0 0).c_inv.bool_inv
        refine wp_cond e ?_
        cases t
        · exact ihy b y' σ K a w g hy (by simpa using hgo) h
        · exact ihx b x' σ K a w g hx (by simpa using hgo) h
      · exact hgo.elim
    · cases hc
  | block id x ih =>
    intro b ir σ K a w g hc hgo h
    obtain ⟨x', hx, rfl⟩ := Option.map_eq_some_iff.1 hc
    refine wp_block (wp_mono (ih id x' σ _ a w g hx hgo h) fun e a' w' hp => ?_)
    cases e with
    | normal => exact hp
    | exit i =>
      obtain ⟨σ', g', hk, hst⟩ := hp
      simp only [Exit.inBlock]
      by_cases hi : i = id
      · simp only [if_pos hi] at hk ⊢; exact ⟨σ', g', hk, hst⟩
      · simp only [if_neg hi] at hk ⊢; exact ⟨σ', g', hk, hst⟩
    | ret => exact hp
    | goto l => exact hp.elim
    | panic ch => exact hp.elim
    | outgrown => exact hp.elim
  | loop x ih =>
    intro b ir σ K a w g hc hgo h
    obtain ⟨x', hx, rfl⟩ := Option.map_eq_some_iff.1 hc
    refine LoopW.loop ?_
    have key := hgo (fun s => ∀ a w g, St E n s a w g → LoopW P x (Post E n K) a w) (fun s hs a w g h => by
      refine LoopW.round (wp_mono (ih b x' _ _ a w g hx hs (h.kill _)) fun e a' w' hp => ?_)
      cases e with
      | normal => obtain ⟨σ', g', hk, hst⟩ := hp; exact hk a' w' g' hst
      | exit id => exact hp
      | ret => exact hp
      | goto l => exact hp.elim
      | panic ch => exact hp.elim
      | outgrown => exact hp.elim)
    exact key a w g h
  | scope x ih =>
    intro b ir σ K a w g hc hgo h
    refine wp_scope_straight (wp_mono (ih b ir σ K a w g hc hgo h) fun e a' w' hp => ?_)
    cases e with
    | goto l => exact hp.elim
    | _ => exact hp
  | exit id =>
    intro b ir σ K a w g hc hgo h
    obtain rfl := Option.some.inj hc
    exact wp_exit ⟨σ, g, hgo, h⟩
  | ret =>
    intro b ir σ K a w g hc hgo h
    obtain rfl := Option.some.inj hc
    exact wp_ret ⟨σ, g, hgo, h⟩
  | _ => intro b ir σ K a w g hc; cases hc
end Go.AI

set_option linter.unusedVariables false
set_option linter.unusedSimpArgs false
namespace Go.AI
open Go Go.RowKit Go.Lib

inductive RV where
  | t (n : Nat)
  | cell (r : Option Nat) (n : Nat)
def cRes (P : Program) : List ResultVar → Option (List RV)
  | [] => some []
  | .tmp t :: r => (cRes P r).map (.t t :: ·)
  | .cell a t :: r => match aggOf P t, cRes P r with
    | some q, some r => some (.cell q a :: r)
    | _, _ => none
def takeRaw (cs : List AC) (off : Nat) : Option Nat → Option AV
  | none => (cs[off]?).map .c
  | some n => if off + n ≤ cs.length then some (.agg ((cs.drop off).take n)) else none
/-- A result; blocks from k on are forgotten. -/
def State.res1 (σ : State) (k : Nat) : RV → Option AV
  | .t n => look σ.env n
  | .cell r n => match look σ.env n with
    | some (.c (.ptr (some (id, off)))) => if k ≤ id then match σ.heap[id]? with
        | some (.cells cs) => takeRaw cs off r
        | _ => none
      else none
    | _ => none
/-- Norming a value that is no tuple. -/
def normS : AV → Option AV
  | .c a => some (.c a.norm)
  | .agg cs => some (.agg (cs.map AC.norm))
  | .tup _ => none
def State.resS (σ : State) (x : RV) : Option AV := (σ.res1 0 x).bind normS
def State.resL (σ : State) : List RV → Option (List AV)
  | [] => some []
  | x :: xs => match σ.resS x, σ.resL xs with
    | some v, some vs => some (v :: vs)
    | _, _ => none
/-- A result's list, none of whose room anybody else has. -/
def AV.up : AV → AV
  | .c (.list 1 e xs) => .c (.list 2 e xs)
  | v => v
theorem VRel.up {w : World} {g : Gh} {k t : Nat} {v : AV} {x : Value} (h : VRel w g k t v x) : VRel w g k t v.up x := by
  unfold AV.up
  split
  · rename_i e xs
    cases h with
    | s h => cases h with
      | c h => cases h with
        | pure h => exact .s (.c (.capped h))
  · exact h
def State.res (σ : State) (k : Nat) : List RV → Option AV
  | [x] => (σ.res1 k x).map AV.up
  | xs => (σ.resL xs).map .tup

/-- All places that a cell names are among the first m blocks. -/
inductive AC.Below (m : Nat) : AC → Prop
  | pure {a} : a.res = true → AC.Below m a
  | nilp : AC.Below m (.ptr none)
  | ptr {id off} : id < m → AC.Below m (.ptr (some (id, off)))
  | eptr {cs} : AC.Below m (.eptr cs)
  | sl {id e off len c} : id < m → AC.Below m (.sl id e off len c)
  | aptr {id e i off} : id < m → AC.Below m (.aptr id e i off)
  | fn {f caps} : (∀ a ∈ caps, AC.Below m a) → AC.Below m (.fn f caps)
  | map {id} : id < m → AC.Below m (.map id)
def Blk.Below (m : Nat) : Blk → Prop
  | .cells cs => ∀ a ∈ cs, a.Below m
  | .arr .. => True
  | .map es => ∀ p ∈ es, ∀ a ∈ p.2, a.Below m
  | .dead => True

theorem XRel.under {w : World} {g : Gh} {p : Place} {a : AC} {v : Value} (h : XRel w g p a v) : a.Below g.m := by
  induction h with
  | pure h => 
    refine .pure ?_
    have := h.pure
    unfold AC.res; split
    · rfl
    · unfold AC.free; split <;> first | rfl | exact this
  | capped h => exact .pure rfl
  | own us h1 h2 h3 h4 => exact .pure rfl
  | nilp => exact .nilp
  | ptr h => exact .ptr h
  | eptr vs h1 h2 h3 => exact .eptr
  | sl h1 h2 h3 => exact .sl h1
  | aptr h => exact .aptr h
  | fn cv h1 h2 h3 ih =>
    refine .fn fun a ha => ?_
    obtain ⟨j, hj⟩ := List.getElem?_of_mem ha
    exact ih j a hj
  | nilfn => exact .pure rfl
  | map h => exact .map h

/-- What is left of what is known when blocks are forgotten, and places move. -/
def Gh.cut (g : Gh) (k : Nat) (rm : Place → Option Place) : Gh := { g with m := k, ow := fun b => (g.ow b).bind rm }
theorem XRel.cut {w : World} {g : Gh} {p q : Place} {k : Nat} {rm : Place → Option Place} (hrm : rm p = some q) {a : AC} {v : Value} (h : XRel w g p a v) (hb : a.Below k) : XRel w (g.cut k rm) q a v := by
  induction h generalizing q with
  | pure h => exact .pure h
  | capped h => exact .capped h
  | own us h1 h2 h3 h4 => exact .own us h1 h2 h3 fun b hb => ⟨by simp [Gh.cut, (h4 b hb).1, hrm], (h4 b hb).2⟩
  | nilp => exact .nilp
  | ptr h =>
    cases hb with
    | pure h' => simp [AC.res, AC.free, AC.pure] at h'
    | ptr h' => exact .ptr (g := g.cut k rm) h'
  | eptr vs h1 h2 h3 => exact .eptr (g := g.cut k rm) vs h1 h2 h3
  | sl h1 h2 h3 =>
    cases hb with
    | pure h' => simp [AC.res, AC.free, AC.pure] at h'
    | sl h' => exact .sl (g := g.cut k rm) h' h2 h3
  | aptr h =>
    cases hb with
    | pure h' => simp [AC.res, AC.free, AC.pure] at h'
    | aptr h' => exact .aptr (g := g.cut k rm) h'
  | fn cv h1 h2 h3 ih =>
    rename_i f caps
    refine .fn cv h1 h2 fun j a ha => ih j a ha hrm ?_
    cases hb with
    | pure h' =>
      cases caps with
      | nil => simp at ha
      | cons => simp [AC.res, AC.free, AC.pure] at h'
    | fn h' => exact h' a (List.mem_of_getElem? ha)
  | nilfn => exact .nilfn
  | map h =>
    cases hb with
    | pure h' => simp [AC.res, AC.free, AC.pure] at h'
    | map h' => exact .map (g := g.cut k rm) h'

theorem cRes_len {P : Program} : ∀ {rvs : List ResultVar} {rs : List RV}, cRes P rvs = some rs → rs.length = rvs.length := by
  intro rvs
  induction rvs with
  | nil => intro rs h; simp [cRes] at h; subst h; rfl
  | cons rv rvs ih =>
    intro rs h
    cases rv with
    | tmp t =>
      simp only [cRes] at h
      obtain ⟨q, hq, rfl⟩ := Option.map_eq_some_iff.1 h
      simp [ih hq]
    | cell b t =>
      simp only [cRes] at h
      split at h
      · rename_i q rs' ha hr
        obtain rfl := Option.some.inj h
        simp [ih hr]
      · cases h
theorem takeRaw_load {P : Program} {w : World} {g : Gh} {cs : List AC} {f : Nat → Value} {p : Nat → Place} {b o : Nat} (hr : ∀ j a, cs[j]? = some a → XRel w g (p j) a (f j) ∧ w.cell? ⟨b, o + j, none⟩ = some (f j))
    {t off : Nat} {r : Option Nat} (ha : aggOf P t = some r) {u : AV} (hu : takeRaw cs off r = some u) : ∃ x, (loadVar t ⟨b, o + off, none⟩).run P w = .ok x w ∧ (∀ (g' : Gh) k t i, (∀ j a v, XRel w g (p (off + j)) a v → XRel w g' (k, t, i, j) a v) → SRel w g' k t i u x) := by
  obtain ⟨h1, h2⟩ := run_isAgg ha w
  cases r with
  | none =>
    simp only [takeRaw] at hu
    obtain ⟨c, hc, rfl⟩ := Option.map_eq_some_iff.1 hu
    obtain ⟨hx, hcell⟩ := hr off c hc
    refine ⟨f off, ?_, fun g' k t i hst => .c (hst 0 _ _ hx)⟩
    simp only [loadVar, Sem.run_bind, h1, Result.andThen_ok, Option.isSome, Bool.false_eq_true, if_false]
    simp [load, Sem.run, hcell]
  | some n =>
    simp only [takeRaw] at hu
    split at hu
    · rename_i hle
      obtain rfl := Option.some.inj hu
      refine ⟨.agg ((List.range n).map fun j => f (off + j)).toArray, ?_, fun g' k t i hst => .agg (by simp; omega) fun j a ha => ?_⟩
      · have hl := run_loadCells_list (P := P) w ⟨b, o + off, none⟩ ((List.range n).map fun j => f (off + j)) (fun j v hv => by
          simp only [List.getElem?_map, List.getElem?_range] at hv
          by_cases hj : j < n
          · simp only [List.getElem?_range hj, Option.map_some, Option.some.injEq] at hv
            have hlt : off + j < cs.length := by omega
            have := (hr (off + j) cs[off + j] (List.getElem?_eq_getElem hlt)).2
            rw [Addr.add_lit, ← hv, Nat.add_assoc]; exact this
          · simp [List.getElem?_eq_none (show (List.range n).length ≤ j by simp; omega)] at hv)
        simp only [List.length_map, List.length_range] at hl
        simp [loadVar, Sem.run_bind, h1, h2 n rfl, hl]
      · simp only [List.getElem?_take, List.getElem?_drop] at ha
        split at ha
        · rename_i hj
          have he : (((List.range n).map fun j => f (off + j)).toArray).getD j undef = f (off + j) := by
            simp [Array.getD_eq_getD_getElem?, List.getElem?_range hj]
          rw [he]; exact hst j _ _ (hr _ _ ha).1
        · cases ha
    · cases hu

section
variable {P : Program} {E : Entry} {n : Nat} {σ σ' : State} {a : Act} {w : World} {g : Gh}

def AV.BelowS (m : Nat) : AV → Prop
  | .c a => a.Below m
  | .agg cs => ∀ a ∈ cs, a.Below m
  | .tup _ => True
def AV.Below (m : Nat) : AV → Prop
  | .tup vs => ∀ v ∈ vs, v.BelowS m
  | a => a.BelowS m
theorem AV.below_res {m : Nat} {a : AV} (h : a.all AC.res = true) : a.Below m := by
  cases a with
  | c a => exact .pure h
  | agg cs => exact fun a ha => .pure (List.all_eq_true.1 h a ha)
  | tup vs =>
    intro v hv
    have := List.all_eq_true.1 h v hv
    cases v with
    | c a => exact .pure this
    | agg cs => exact fun a ha => .pure (List.all_eq_true.1 this a ha)
    | tup ws => trivial
theorem SRel.under {k t i : Nat} {a : AV} {v : Value} (h : SRel w g k t i a v) : a.BelowS g.m := by
  cases h with
  | c h => exact h.under
  | agg h1 h2 =>
    intro a ha
    obtain ⟨j, hj⟩ := List.getElem?_of_mem ha
    exact (h2 j a hj).under
theorem VRel.under {k t : Nat} {a : AV} {v : Value} (h : VRel w g k t a v) : a.Below g.m := by
  cases h with
  | s h => 
    have := h.under
    cases h with
    | c h => exact this
    | agg h1 h2 => exact this
  | tup h1 h2 =>
    intro a ha
    obtain ⟨j, hj⟩ := List.getElem?_of_mem ha
    exact (h2 j a hj).under
theorem SRel.cut {k0 t0 i0 k1 t1 i1 k : Nat} {rm : Place → Option Place} (hrm : ∀ j, rm (k0, t0, i0, j) = some (k1, t1, i1, j)) {a : AV} {v : Value} (h : SRel w g k0 t0 i0 a v) (hb : a.BelowS k) : SRel w (g.cut k rm) k1 t1 i1 a v := by
  cases h with
  | c h => exact .c (h.cut (hrm 0) hb)
  | agg h1 h2 => exact .agg h1 fun j a ha => (h2 j a ha).cut (hrm j) (hb a (List.mem_of_getElem? ha))
theorem VRel.cut {k0 t0 k1 t1 k : Nat} {rm : Place → Option Place} (hrm : ∀ i j, rm (k0, t0, i, j) = some (k1, t1, i, j)) {a : AV} {v : Value} (h : VRel w g k0 t0 a v) (hb : a.Below k) : VRel w (g.cut k rm) k1 t1 a v := by
  cases h with
  | s h =>
    refine .s (h.cut (hrm 0) ?_)
    cases h with
    | c h => exact hb
    | agg h1 h2 => exact hb
  | tup h1 h2 => exact .tup h1 fun i a ha => (h2 i a ha).cut (hrm i) (hb a (List.mem_of_getElem? ha))

def readRV (tmps : Array Value) : ResultVar → Sem Value
  | .tmp t => pure (tmps.getD t undef)
  | .cell a t => do loadVar t (← asAddr (tmps.getD a undef))
theorem results_eq (fn : Func) (tmps : Array Value) : results fn tmps = (do
    let vs ← fn.results.mapM (readRV tmps)
    pure (if h : vs.size = 1 then vs[0] else .tuple vs)) := by
  unfold results
  congr 1

/-- A result in a slot. -/
theorem read_t (h : St E n σ a w g) {t : Nat} {u : AV} (hu : look σ.env t = some u) : (readRV a.tmps (.tmp t)).run P w = .ok (a.tmps.getD t undef) w ∧ VRel w g 0 t u (a.tmps.getD t undef) := ⟨rfl, (h.env t u hu).2⟩
/-- A result in a listed block. -/
theorem read_cell (h : St E n σ a w g) {b t id off : Nat} {r : Option Nat} (ha : aggOf P t = some r) (hp : look σ.env b = some (.c (.ptr (some (id, off))))) {cs : List AC} (hcs : σ.heap[id]? = some (.cells cs)) {u : AV} (hu : takeRaw cs off r = some u) :
    ∃ v, (readRV a.tmps (.cell b t)).run P w = .ok v w ∧ ∀ (g' : Gh) k t' i, (∀ j a v, XRel w g (1, id, 0, off + j) a v → XRel w g' (k, t', i, j) a v) → SRel w g' k t' i u v := by
  obtain ⟨hid, hpe⟩ := (h.env b _ hp).2.c_inv.ptr_inv
  have hH := h.heap.rel _ _ hcs
  cases hH with
  | cells h2 h3 h4 h5 h6 =>
    rename_i vs T
    obtain ⟨y, hy, hr⟩ := takeRaw_load (P := P) (w := w) (g := g) (f := fun j => vs.getD j undef) (p := fun j => (1, id, 0, j)) (b := g.β id) (o := 0) (fun j c hc => ⟨h4 j c hc, by
      have hlt : j < vs.size := by rw [← h3]; exact (List.getElem?_eq_some_iff.1 hc).1
      rw [cell_of_row w _ _ _ _ _ h2, Nat.zero_add]
      simp [Array.getD_eq_getD_getElem?, Array.getElem?_eq_getElem hlt]⟩) ha hu
    rw [Nat.zero_add] at hy
    exact ⟨y, by simp [readRV, hpe, asAddr, hy], hr⟩

theorem SRel.normed {k t i k' t' i' : Nat} {u v : AV} {x : Value} (h : SRel w g k t i u x) (hv : normS u = some v) : SRel w g k' t' i' v x := by
  cases h with
  | c h => obtain rfl := Option.some.inj hv; exact .c h.norm
  | agg h1 h2 => obtain rfl := Option.some.inj hv; exact SRel.norm (.agg h1 h2)
theorem VRel.normed {k t k' t' i' : Nat} {u v : AV} {x : Value} (h : VRel w g k t u x) (hv : normS u = some v) : SRel w g k' t' i' v x := by
  cases h with
  | s h => exact h.normed hv
  | tup h1 h2 => cases hv
theorem normS_share {u v : AV} (h : normS u = some v) : v.share = v := by
  cases u with
  | c a => obtain rfl := Option.some.inj h; simp [AV.share, AC.norm_share]
  | agg cs => obtain rfl := Option.some.inj h; simp [AV.share, AC.norm_share]
  | tup vs => cases h
theorem readS (h : St E n σ a w g) {x : RV} {rv : ResultVar} {xs : List RV} {rvs : List ResultVar} (hc : cRes P (rv :: rvs) = some (x :: xs)) {v : AV} (hv : σ.resS x = some v) : cRes P rvs = some xs ∧ ∃ y, (readRV a.tmps rv).run P w = .ok y w ∧ ∀ k t i, SRel w g k t i v y := by
  obtain ⟨u, hu, hn⟩ := Option.bind_eq_some_iff.1 hv
  cases rv with
  | tmp t =>
    simp only [cRes] at hc
    obtain ⟨r, hr, he⟩ := Option.map_eq_some_iff.1 hc
    injection he with he1 he2; subst he1; subst he2
    obtain ⟨h1, h2⟩ := read_t (P := P) h hu
    exact ⟨hr, _, h1, fun k t i => h2.normed hn⟩
  | cell b t =>
    simp only [cRes] at hc
    split at hc
    · rename_i r rs ha hr
      injection hc with hc; injection hc with he1 he2; subst he1; subst he2
      simp only [State.res1] at hu
      split at hu
      · rename_i id off hp
        rw [if_pos (Nat.zero_le _)] at hu
        split at hu
        · rename_i cs hcs
          obtain ⟨y, h1, h2⟩ := read_cell (P := P) h ha hp hcs hu
          refine ⟨hr, y, h1, fun k t i => ?_⟩
          let rm : Place → Option Place := fun p => if p.1 = 1 ∧ p.2.1 = id ∧ p.2.2.1 = 0 ∧ off ≤ p.2.2.2 then some (3, 0, 0, p.2.2.2 - off) else none
          have e := GExt.re w g rm
          have e' : GExt (fun _ => False) w (g.re rm) w g := ⟨Evo.refl _ _ _, Nat.le_refl _, fun _ _ => rfl, fun _ _ => rfl⟩
          have h3 := h2 (g.re rm) 3 0 0 fun j a v hx => hx.ext e fun b hb hp => ⟨fun h => h, re_some hp (by simp [rm])⟩
          exact (h3.normed (k' := 3) (t' := 0) (i' := 0) hn).extS e' (normS_share hn)
        · cases hu
      · cases hu
    · cases hc

theorem run_mapRV (h : St E n σ a w g) : ∀ (rvs : List ResultVar) (rs : List RV) (vs : List AV), cRes P rvs = some rs → σ.resL rs = some vs → ∃ ys : List Value, (rvs.mapM (readRV a.tmps)).run P w = .ok ys w ∧ ys.length = rvs.length ∧ vs.length = rvs.length ∧ ∀ (i : Nat) (v : AV), vs[i]? = some v → ∃ y, ys[i]? = some y ∧ ∀ k t i, SRel w g k t i v y := by
  intro rvs
  induction rvs with
  | nil =>
    intro rs vs hc hv
    simp only [cRes, Option.some.injEq] at hc; subst hc
    simp only [State.resL, Option.some.injEq] at hv; subst hv
    exact ⟨[], by simp, rfl, rfl, by simp⟩
  | cons rv rvs ih =>
    intro rs vs hc hv
    cases rs with
    | nil =>
      exfalso
      cases rv with
      | tmp t => simp [cRes] at hc
      | cell b t => simp only [cRes] at hc; split at hc <;> simp at hc
    | cons x xs =>
      simp only [State.resL] at hv
      split at hv
      · rename_i v vs' h1 h2
        obtain rfl := Option.some.inj hv
        obtain ⟨hc', y, hy, hr⟩ := readS h hc h1
        obtain ⟨ys, q1, q2, q3, q4⟩ := ih xs vs' hc' h2
        refine ⟨y :: ys, by simp [List.mapM_cons, hy, q1], by simp [q2], by simp [q3], fun i v hi => ?_⟩
        cases i with
        | zero => simp at hi; subst hi; exact ⟨y, rfl, hr⟩
        | succ i => simpa using q4 i v (by simpa using hi)
      · cases hv

theorem AC.Below.mono {m m' : Nat} (hm : m ≤ m') {a : AC} (h : a.Below m) : a.Below m' := by
  induction h with
  | pure h => exact .pure h
  | nilp => exact .nilp
  | ptr h => exact .ptr (by omega)
  | eptr => exact .eptr
  | sl h => exact .sl (by omega)
  | aptr h => exact .aptr (by omega)
  | fn h ih => exact .fn ih
  | map h => exact .map (by omega)
theorem HRel.under {id : Nat} {b : Blk} (h : HRel w g id b) : b.Below g.m := by
  cases h with
  | dead => trivial
  | cells h1 h2 h3 h4 h5 =>
    intro x hx
    obtain ⟨j, hj⟩ := List.getElem?_of_mem hx
    exact (h3 j x hj).under
  | arr => trivial
  | map h1 h2 h3 h4 h5 =>
    intro p hp x hx
    obtain ⟨i, hi⟩ := List.getElem?_of_mem hp
    obtain ⟨m, _, _, v, hv, hr⟩ := h3 i p hi
    generalize m.val = mv at hr
    cases hr with
    | c h => rw [← hv] at hx; simp [AV.cells] at hx; subst hx; exact h.under
    | agg q1 q2 =>
      rw [← hv] at hx
      obtain ⟨j, hj⟩ := List.getElem?_of_mem hx
      exact (q2 j x hj).under
theorem HRel.cut {id k : Nat} {b : Blk} (h : HRel w g id b) (hb : b.Below k) : HRel w (g.cut k some) id b := by
  have ho : ∀ x, g.ow x = none → (g.cut k some).ow x = none := fun x hx => by simp [Gh.cut, hx]
  cases h with
  | dead => exact .dead
  | cells h1 h2 h3 h4 h5 => exact .cells (g := g.cut k some) h1 h2 (fun j x hx => (h3 j x hx).cut rfl (hb x (List.mem_of_getElem? hx))) h4 (ho _ h5)
  | arr h1 h2 h2' h3 h4 h5 h6 h7 h8 => exact .arr (g := g.cut k some) h1 h2 h2' h3 h4 h5 h6 h7 (ho _ h8)
  | map h1 h2 h3 h4 h5 =>
    refine .map (g := g.cut k some) h1 h2 (fun i p hp => ?_) h4 (ho _ h5)
    obtain ⟨m, hm, hk, v, hv, hr⟩ := h3 i p hp
    refine ⟨m, hm, hk, v, hv, hr.cut (fun j => rfl) ?_⟩
    generalize m.val = mv at hr
    cases hr with
    | c h => exact hb p (List.mem_of_getElem? hp) _ (by rw [← hv]; simp [AV.cells])
    | agg q1 q2 => exact fun x hx => hb p (List.mem_of_getElem? hp) x (by rw [← hv]; exact hx)
theorem HSt.cut {H : List Blk} {k : Nat} (h : HSt w g H) (hk : k ≤ H.length) (hb : ∀ (id : Nat) (b : Blk), (H.take k)[id]? = some b → b.Below k) : HSt w (g.cut k some) (H.take k) := by
  have get : ∀ (id : Nat) (b : Blk), (H.take k)[id]? = some b → H[id]? = some b := fun id b hq => by
    rw [List.getElem?_take] at hq; split at hq
    · exact hq
    · cases hq
  refine ⟨by simp [Gh.cut]; omega, fun id b hq => (h.rel id b (get id b hq)).cut (hb id b hq), fun id id' b b' h1 h2 h3 h4 h5 => h.inj id id' b b' (get _ _ h1) (get _ _ h2) h3 h4 h5, fun b hb' => ?_⟩
  obtain ⟨q1, q2⟩ := h.lim b hb'
  exact ⟨q1, by simp [Gh.cut, q2]⟩

/-- How a function's body must end. -/
def Fin (rs : List RV) (H : List Blk) (r : AV) (H' : List Blk) (e : AX) (σ : State) : Prop :=
  (∀ id, e ≠ .x id) ∧ ∃ k, H' = σ.heap.take k ∧ H.length ≤ k ∧ k ≤ σ.heap.length ∧ (k = σ.heap.length ∨ r.all AC.res = true) ∧ (σ.res k rs = some r ∨ ∃ x, rs = [x] ∧ σ.res1 k x = some r) ∧ ∀ (id : Nat) (b : Blk), H'[id]? = some b → H[id]? = some b ∨ b.Below k

theorem fin_sound {H H' : List Blk} {g0 : Gh} {w0 : World} (h0 : HSt w0 g0 H) (h : St ⟨w0, g0, Mset g0 H⟩ n σ a w g) {fn : Func} {rs : List RV} (hrs : cRes P fn.results.toList = some rs) {r : AV} {e : AX} (hf : Fin rs H r H' e σ) :
    a.defers = [] ∧ ∃ v, (results fn a.tmps).run P w = .ok v w ∧ ∃ g', HSt w g' H' ∧ VRel w g' 3 0 r v ∧ GExt (Mset g0 H) w0 g0 w g' ∧ (∀ b p, g'.ow b = some p → (p.1 = 1 ∨ p.1 = 3) ∧ (w0.heap.size ≤ b ∨ Mset g0 H b)) ∧ ∀ id k, H'[id]? = some k → k.live = true → w0.heap.size ≤ g'.β id ∨ Mset g0 H (g'.β id) := by
  obtain ⟨_, k, rfl, hk1, hk2, hk3, hres, hbel⟩ := hf
  have hlen := h.heap.len
  -- the places: 0 goes, 1 stays, some become the result's
  have fin : ∀ rm : Place → Option Place, (∀ p q, rm p = some q → q.1 = 1 ∨ q.1 = 3) → (∀ id i j, id < k → rm (1, id, i, j) = some (1, id, i, j)) → ∀ v, VRel w (g.re rm) 3 0 r v →
      ∃ g', HSt w g' (σ.heap.take k) ∧ VRel w g' 3 0 r v ∧ GExt (Mset g0 H) w0 g0 w g' ∧ (∀ b p, g'.ow b = some p → (p.1 = 1 ∨ p.1 = 3) ∧ (w0.heap.size ≤ b ∨ Mset g0 H b)) ∧ ∀ id k', (σ.heap.take k)[id]? = some k' → k'.live = true → w0.heap.size ≤ g'.β id ∨ Mset g0 H (g'.β id) := by
    intro rm hrm hkeep v hv
    have get : ∀ (id : Nat) (b : Blk), (σ.heap.take k)[id]? = some b → id < k ∧ σ.heap[id]? = some b := fun id b hq => by
      rw [List.getElem?_take] at hq; split at hq
      · rename_i hlt; exact ⟨hlt, hq⟩
      · cases hq
    have hbk : ∀ (id : Nat) (b : Blk), (σ.heap.take k)[id]? = some b → b.Below k := fun id b hq => by
      rcases hbel id b hq with hq' | hq'
      · have hu := (h0.rel id b hq').under
        rw [← h0.len] at hu
        cases b with
        | cells cs => exact fun x hx => (hu x hx).mono hk1
        | arr => trivial
        | map es => exact fun p hp x hx => (hu p hp x hx).mono hk1
        | dead => trivial
      · exact hq'
    have hS : HSt w (g.re rm) σ.heap ∨ True := .inr trivial
    refine ⟨(g.re rm).cut k some, ⟨by simp [Gh.cut]; omega, fun id b hq => ?_, fun id id' b b' h1 h2 h3 h4 h5 => h.heap.inj id id' b b' (get _ _ h1).2 (get _ _ h2).2 h3 h4 h5, fun b hb' => ?_⟩, ?_, ⟨h.evo.evo, by show g0.m ≤ k; rw [← h0.len]; exact hk1, h.evo.β, h.evo.cap⟩, fun b p hp => ?_, fun id b hq hl => h.baseH id b (get id b hq).2 hl⟩
    · obtain ⟨hlt, hq'⟩ := get id b hq
      refine HRel.cut ((h.heap.rel id b hq').ext (GExt.re w g rm) (by omega) (fun hl => ?_) fun x i j hx hp => ⟨fun h => h, re_some hp (hkeep id i j hlt)⟩) (hbk id b hq)
      have := (h.heap.rel id b hq').lt hl
      exact ⟨this.1, fun h => h, by simp [Gh.re, this.2.2]⟩
    · obtain ⟨q1, q2⟩ := h.heap.lim b hb'
      exact ⟨q1, by simp [Gh.cut, Gh.re, q2]⟩
    · refine hv.cut (fun i j => rfl) ?_
      rcases hk3 with hk3 | hk3
      · have := hv.under
        have he : (g.re rm).m = k := by show g.m = k; omega
        rw [he] at this; exact this
      · exact AV.below_res hk3
    · have hp' : ((g.ow b).bind rm).bind some = some p := hp
      obtain ⟨p', hp'', hpe⟩ := Option.bind_eq_some_iff.1 hp'
      obtain rfl := Option.some.inj hpe
      obtain ⟨q, hq, hqp⟩ := Option.bind_eq_some_iff.1 hp''
      exact ⟨hrm q _ hqp, h.baseO b q hq⟩
  refine ⟨h.defers, ?_⟩
  -- one result as it lies
  have single : ∀ x r, rs = [x] → σ.res1 k x = some r → ∃ v, (results fn a.tmps).run P w = .ok v w ∧ ∃ rm : Place → Option Place, (∀ p q, rm p = some q → q.1 = 1 ∨ q.1 = 3) ∧ (∀ id i j, id < k → rm (1, id, i, j) = some (1, id, i, j)) ∧ VRel w (g.re rm) 3 0 r v := by
    rintro x r rfl hres
    have hone : ∀ rv, fn.results.toList = [rv] → ∀ y, (readRV a.tmps rv).run P w = .ok y w → (results fn a.tmps).run P w = .ok y w := fun rv hrv y hy => by
      have : fn.results = #[rv] := by simpa using congrArg List.toArray hrv
      rw [results_eq, this]
      simp [hy]
    generalize hl : fn.results.toList = l at hrs
    cases l with
    | nil => simp [cRes] at hrs
    | cons rv l =>
      cases rv with
      | tmp t =>
        simp only [cRes] at hrs
        obtain ⟨q, hq, he⟩ := Option.map_eq_some_iff.1 hrs
        injection he with he1 he2; subst he1; subst he2
        have hl0 : l = [] := by
          cases l with
          | nil => rfl
          | cons rv l => exfalso; cases rv <;> simp only [cRes] at hq <;> first | (simp at hq; done) | (split at hq <;> simp at hq)
        subst hl0
        obtain ⟨q1, q2⟩ := read_t (P := P) h hres
        refine ⟨_, hone _ hl _ q1, fun p => if p.1 = 0 ∧ p.2.1 = t then some (3, 0, p.2.2) else if p.1 = 1 then some p else none, fun p q hpq => ?_, fun id i j _ => by simp, q2.ext (GExt.re w g _) fun b i j hb hp => ⟨fun h => h, re_some hp (by simp)⟩⟩
        dsimp only at hpq
        split at hpq
        · obtain rfl := Option.some.inj hpq; exact .inr rfl
        · split at hpq
          · rename_i hp1; obtain rfl := Option.some.inj hpq; exact .inl hp1
          · cases hpq
      | cell b t =>
        simp only [cRes] at hrs
        split at hrs
        · rename_i q rs' ha hr
          injection hrs with hrs; injection hrs with he1 he2; subst he1; subst he2
          have hl0 : l = [] := by
            cases l with
            | nil => rfl
            | cons rv l => exfalso; cases rv <;> simp only [cRes] at hr <;> first | (simp at hr; done) | (split at hr <;> simp at hr)
          subst hl0
          simp only [State.res1] at hres
          split at hres
          · rename_i id off hp
            split at hres
            · rename_i hkid
              split at hres
              · rename_i cs hcs
                obtain ⟨y, q1, q2⟩ := read_cell (P := P) h ha hp hcs hres
                let rm : Place → Option Place := fun p => if p.1 = 1 then (if p.2.1 = id then (if p.2.2.1 = 0 ∧ off ≤ p.2.2.2 then some (3, 0, 0, p.2.2.2 - off) else none) else some p) else none
                refine ⟨y, hone _ hl _ q1, rm, fun p q hpq => ?_, fun id' i j hlt => ?_, .s (q2 (g.re rm) 3 0 0 fun j a v hx => hx.ext (GExt.re w g rm) fun b hb hp => ⟨fun h => h, re_some hp (by simp [rm])⟩)⟩
                · simp only [rm] at hpq
                  split at hpq
                  · rename_i hp1
                    split at hpq
                    · split at hpq
                      · obtain rfl := Option.some.inj hpq; exact .inr rfl
                      · cases hpq
                    · obtain rfl := Option.some.inj hpq; exact .inl hp1
                  · cases hpq
                · have : id' ≠ id := by omega
                  simp [rm, this]
              · cases hres
            · cases hres
          · cases hres
        · cases hrs
  have several : ∀ vs, σ.resL rs = some vs → rs.length ≠ 1 → r = .tup vs → ∃ v, (results fn a.tmps).run P w = .ok v w ∧ ∃ rm : Place → Option Place, (∀ p q, rm p = some q → q.1 = 1 ∨ q.1 = 3) ∧ (∀ id i j, id < k → rm (1, id, i, j) = some (1, id, i, j)) ∧ VRel w (g.re rm) 3 0 r v := by
    rintro vs hvs hne rfl
    obtain ⟨ys, q1, q2, q3, q4⟩ := run_mapRV (P := P) h _ _ _ hrs hvs
    have hrl : rs.length = fn.results.toList.length := cRes_len hrs
    let rm : Place → Option Place := fun p => if p.1 = 5 then some (3, 0, p.2.2) else if p.1 = 1 then some p else none
    refine ⟨.tuple ys.toArray, ?_, rm, fun p q hpq => ?_, fun id i j _ => by simp [rm], .tup (by simp; omega) fun i v hv => ?_⟩
    · rw [results_eq, Array.mapM_eq_mapM_toList, ← bind_pure_comp]
      have hys : ¬ ys.length = 1 := by omega
      simp [q1, hys]
    · simp only [rm] at hpq
      split at hpq
      · obtain rfl := Option.some.inj hpq; exact .inr rfl
      · split at hpq
        · rename_i hp1; obtain rfl := Option.some.inj hpq; exact .inl hp1
        · cases hpq
    · obtain ⟨y, hy, hr⟩ := q4 i v hv
      have he : ys.toArray.getD i undef = y := by simp [Array.getD_eq_getD_getElem?, hy]
      rw [he]
      exact (hr 5 0 i).ext (GExt.re w g rm) fun b j hb hp => ⟨fun h => h, re_some hp (by simp [rm])⟩
  have hall : ∃ v, (results fn a.tmps).run P w = .ok v w ∧ ∃ rm : Place → Option Place, (∀ p q, rm p = some q → q.1 = 1 ∨ q.1 = 3) ∧ (∀ id i j, id < k → rm (1, id, i, j) = some (1, id, i, j)) ∧ VRel w (g.re rm) 3 0 r v := by
    rcases hres with hres | ⟨x, hx, hres⟩
    rotate_left
    · exact single x r hx hres
    match rs, hres, hrs, single, several with
    | [x], hres, hrs, single, several =>
      have hres' : (σ.res1 k x).map AV.up = some r := hres
      obtain ⟨r0, h0, rfl⟩ := Option.map_eq_some_iff.1 hres'
      obtain ⟨v, p1, rm, p2, p3, p4⟩ := single x r0 rfl h0
      exact ⟨v, p1, rm, p2, p3, p4.up⟩
    | [], hres, hrs, single, several =>
      have hres' : (σ.resL []).map AV.tup = some r := hres
      obtain ⟨vs, hvs, rfl⟩ := Option.map_eq_some_iff.1 hres'
      exact several vs hvs (by simp) rfl
    | x :: y :: l, hres, hrs, single, several =>
      have hres' : (σ.resL (x :: y :: l)).map AV.tup = some r := hres
      obtain ⟨vs, hvs, rfl⟩ := Option.map_eq_some_iff.1 hres'
      exact several vs hvs (by simp) rfl
  obtain ⟨v, hrun, rm, hrm, hkeep, hv⟩ := hall
  exact ⟨v, hrun, fin rm hrm hkeep v hv⟩

/-- The slots that hold the arguments. -/
def args0 : Nat → List AV → List (Nat × AV)
  | _, [] => []
  | i, v :: vs => (i, v) :: args0 (i + 1) vs
theorem look_args0 : ∀ (vs : List AV) (i t : Nat) (v : AV), look (args0 i vs) t = some v → i ≤ t ∧ vs[t - i]? = some v := by
  intro vs
  induction vs with
  | nil => intro i t v h; cases h
  | cons u vs ih =>
    intro i t v h
    simp only [args0, look] at h
    split at h
    · rename_i e; subst e; exact ⟨Nat.le_refl _, by simpa using h⟩
    · rename_i e
      obtain ⟨h1, h2⟩ := ih (i + 1) t v h
      refine ⟨by omega, ?_⟩
      obtain ⟨d, hd⟩ : ∃ d, t - i = d + 1 := ⟨t - (i + 1), by omega⟩
      rw [hd, List.getElem?_cons_succ, show d = t - (i + 1) by omega]
      exact h2

/-- .. where the value and the blocks are not told. -/
def FinQ (rs : List RV) (H : List Blk) (Q : AV → List Blk → Prop) (e : AX) (σ : State) : Prop := ∃ r H', Q r H' ∧ Fin rs H r H' e σ
theorem RunsQ.to {f : Nat} {args : List AV} {H H' : List Blk} {r : AV} (h : RunsQ P f args H fun u G => u = r ∧ G = H') : RunsTo P f args H r H' :=
  ⟨h.1, fun w g vals h1 h2 h3 => (h.2 w g vals h1 h2 h3).mono fun e w' ⟨u, G, v, g', hq, q⟩ => by
    obtain ⟨rfl, rfl⟩ := hq; exact ⟨v, g', q⟩⟩
theorem RunsQ.mono {f : Nat} {args : List AV} {H : List Blk} {Q Q' : AV → List Blk → Prop} (h : RunsQ P f args H Q) (hQ : ∀ r H', Q r H' → Q' r H') : RunsQ P f args H Q' :=
  ⟨h.1, fun w g vals h1 h2 h3 => (h.2 w g vals h1 h2 h3).mono fun e w' ⟨u, G, v, g', hq, q⟩ => ⟨u, G, v, g', hQ _ _ hq, q⟩⟩
/-- A function whose code runs as its translation says. -/
theorem runsQ_of {A : Ann} {f : Nat} {fn : Func} {code : Code} {ir : IR} {rs : List RV} {args : List AV} {H : List Blk} {Q : AV → List Blk → Prop} (hf : P.funcs[f]? = some fn) (hb : fn.body = some code) (hname : (fn.name == "runtime.NumGoroutine") = false) (hir : cIR P A fn.ntmps 0 code = some ir) (hrs : cRes P fn.results.toList = some rs)
    (hn : args.length ≤ fn.ntmps) (hgo : ir.go P ⟨args0 0 args, H⟩ (FinQ rs H Q)) : RunsQ P f args H Q := by
  refine ⟨⟨fn, hf, hname, by simp [hb]⟩, fun w g vals hH hl hv => ?_⟩
  let rm : Place → Option Place := fun p => if p.1 = 1 then some p else none
  have hM : ∀ b p, (g.re rm).ow b = some p → Mset g H b := fun b p hp => by
    obtain ⟨q, hq, hqp⟩ := Option.bind_eq_some_iff.1 hp
    obtain ⟨q1, q2, q3, q4⟩ := q
    simp only [rm] at hqp
    split at hqp
    · rename_i h1; subst h1; exact .inr ⟨q2, q3, q4, hq⟩
    · cases hqp
  have h0 : St ⟨w, g, Mset g H⟩ fn.ntmps ⟨args0 0 args, H⟩ { tmps := vals ++ Array.replicate (fn.ntmps - vals.size) undef, defers := [] } w (g.re rm) := by
    refine ⟨rfl, by simp; omega, fun t v ht => ?_, hH.ext (GExt.re w g rm) rfl (fun id k hk hl => ⟨fun h => h, ?_⟩) (fun b id i j hb hp => ⟨fun h => h, re_some hp (by simp [rm])⟩) (fun b hb => ⟨(hH.lim b hb).1, by simp [Gh.re, (hH.lim b hb).2]⟩), fun id k hk hl => .inr (.inl ⟨id, k, hk, hl, rfl⟩), fun b p hp => .inr (hM b p hp), ⟨Evo.refl _ _ _, Nat.le_refl _, fun _ _ => rfl, fun _ _ => rfl⟩⟩
    · obtain ⟨_, h2⟩ := look_args0 _ _ _ _ ht
      rw [Nat.sub_zero] at h2
      have hlt : t < vals.size := by rw [← hl]; exact (List.getElem?_eq_some_iff.1 h2).1
      obtain ⟨q1, q2⟩ := hv t v h2
      refine ⟨by omega, ?_⟩
      have he : (vals ++ Array.replicate (fn.ntmps - vals.size) undef).getD t undef = vals.getD t undef := by
        simp [Array.getD_eq_getD_getElem?, Array.getElem?_append_left hlt]
      show VRel w (g.re rm) 0 t v ((vals ++ Array.replicate (fn.ntmps - vals.size) undef).getD t undef)
      rw [he]; exact (q2 0 t).extS (GExt.re w g rm) q1
    · have := ((hH.rel id k hk).lt hl).2.2
      simp [Gh.re, this]
  refine calls_of_wp hf hb (wp_mono (IR.sound code 0 ir _ _ _ _ _ hir hgo h0) fun e a w' hp => ?_)
  have done : ∀ (e' : AX) (σ : State) (g1 : Gh), FinQ rs H Q e' σ → St ⟨w, g, Mset g H⟩ fn.ntmps σ a w' g1 → a.defers = [] ∧ ∃ v, (results fn a.tmps).run P w' = .ok v w' ∧ ∃ r H' v₁ g', Q r H' ∧ Ending.returned v = .returned v₁ ∧ HSt w' g' H' ∧ VRel w' g' 3 0 r v₁ ∧ GExt (Mset g H) w g w' g' ∧ (∀ b p, g'.ow b = some p → (p.1 = 1 ∨ p.1 = 3) ∧ (w.heap.size ≤ b ∨ Mset g H b)) ∧
      ∀ id k, H'[id]? = some k → k.live = true → w.heap.size ≤ g'.β id ∨ Mset g H (g'.β id) := fun e' σ g1 hfin hst => by
    obtain ⟨r, H', hQ, hfin⟩ := hfin
    obtain ⟨q1, v, q2, g', q3⟩ := fin_sound hH hst hrs hfin
    exact ⟨q1, v, q2, r, H', v, g', hQ, rfl, q3⟩
  cases e with
  | normal => obtain ⟨σ, g1, hfin, hst⟩ := hp; exact done _ σ g1 hfin hst
  | ret => obtain ⟨σ, g1, hfin, hst⟩ := hp; exact done _ σ g1 hfin hst
  | exit id => obtain ⟨σ, g1, hfin, hst⟩ := hp; obtain ⟨r, H', hQ, hfin⟩ := hfin; exact (hfin.1 id rfl).elim
  | goto l => exact hp.elim
  | panic ch => exact hp.elim
  | outgrown => exact hp.elim
theorem runs_of {A : Ann} {f : Nat} {fn : Func} {code : Code} {ir : IR} {rs : List RV} {args : List AV} {H H' : List Blk} {r : AV} (hf : P.funcs[f]? = some fn) (hb : fn.body = some code) (hname : (fn.name == "runtime.NumGoroutine") = false) (hir : cIR P A fn.ntmps 0 code = some ir) (hrs : cRes P fn.results.toList = some rs)
    (hn : args.length ≤ fn.ntmps) (hgo : ir.go P ⟨args0 0 args, H⟩ (FinQ rs H fun u G => u = r ∧ G = H')) : RunsTo P f args H r H' := (runsQ_of hf hb hname hir hrs hn hgo).to
theorem FinQ.of {rs : List RV} {H H' : List Blk} {r : AV} {e : AX} {σ : State} (h : Fin rs H r H' e σ) : FinQ rs H (fun u G => u = r ∧ G = H') e σ := ⟨r, H', ⟨rfl, rfl⟩, h⟩
end
end Go.AI

set_option linter.unusedVariables false
set_option linter.unusedSimpArgs false
namespace Go.AI
open Go Go.RowKit Go.Lib

/-! ### Steps, written for rewriting -/
def seqK (P : Program) (b : IR) (K : AX → State → Prop) : AX → State → Prop
  | .n, σ => b.go P σ K
  | e, σ => K e σ
def blkK (id : Nat) (K : AX → State → Prop) : AX → State → Prop
  | .x i, σ => if i = id then K .n σ else K (.x i) σ
  | e, σ => K e σ
def regK (ks : List Nat) (K : AX → State → Prop) (σ : State) : Prop := K .n (σ.kill ks)
def opsK (P : Program) (l : List IOper) (K : State → Prop) (σ : State) : Prop := goOps P l σ K
def gPut (P : Program) (v : Option AV) (d : Nat) (l : List IOper) (e : List (Nat × AV)) (H : List Blk) (K : State → Prop) : Prop :=
  match v with
  | some v => goOps P l ⟨put e d v, H⟩ K
  | none => False
def gRun (P : Program) (s : Option State) (l : List IOper) (K : State → Prop) : Prop :=
  match s with
  | some σ => goOps P l σ K
  | none => False
def gIf (P : Program) (v : Option AV) (want : Bool) (d : Option Nat) (op : IOp) (l : List IOper) (σ : State) (K : State → Prop) : Prop :=
  match v with
  | some (.c (.bool b)) => if b = want then goOps P (⟨d, op, none⟩ :: l) σ K else goOps P l (σ.del d) K
  | some (.tup []) => goOps P l (σ.del d) K
  | _ => False
def gCond (P : Program) (v : Option AV) (a b : IR) (σ : State) (K : AX → State → Prop) : Prop :=
  match v with
  | some (.c (.bool t)) => if t then a.go P σ K else b.go P σ K
  | _ => False

section
variable {P : Program} {K : AX → State → Prop} {KS : State → Prop} {σ : State} {e : List (Nat × AV)} {H : List Blk} {l : List IOper}
theorem g_skip : IR.go P .skip σ K = K .n σ := rfl
theorem g_exit (id : Nat) : IR.go P (.exit id) σ K = K (.x id) σ := rfl
theorem g_ret : IR.go P .ret σ K = K .r σ := rfl
theorem g_seq (a b : IR) : IR.go P (.seq a b) σ K = a.go P σ (seqK P b K) := by
  simp only [IR.go]; congr 1
theorem g_block (id : Nat) (b : IR) : IR.go P (.block id b) σ K = b.go P σ (blkK id K) := by
  simp only [IR.go]; congr 1
theorem g_region (ops : List IOper) (ks : List Nat) : IR.go P (.region ops ks) σ K = goOps P ops σ (regK ks K) := rfl
theorem g_cond (c : Opd) (a b : IR) : IR.go P (.cond c a b) σ K = gCond P (σ.ev c) a b σ K := rfl
theorem g_condT (a b : IR) : gCond P (some (.c (.bool true))) a b σ K = a.go P σ K := rfl
theorem g_condF (a b : IR) : gCond P (some (.c (.bool false))) a b σ K = b.go P σ K := rfl
theorem seqK_n (b : IR) : seqK P b K .n σ = b.go P σ K := rfl
theorem seqK_x (b : IR) (i : Nat) : seqK P b K (.x i) σ = K (.x i) σ := rfl
theorem seqK_r (b : IR) : seqK P b K .r σ = K .r σ := rfl
theorem blkK_n (i : Nat) : blkK i K .n σ = K .n σ := rfl
theorem blkK_r (i : Nat) : blkK i K .r σ = K .r σ := rfl
theorem blkK_x (i j : Nat) : blkK i K (.x j) σ = if j = i then K .n σ else K (.x j) σ := rfl
theorem g_regK (ks : List Nat) : regK ks K ⟨e, H⟩ = K .n ⟨kill e ks, H⟩ := rfl
theorem g_opsK : opsK P l KS σ = goOps P l σ KS := rfl
theorem g_nil : goOps P [] σ KS = KS σ := rfl
theorem g_guard (d : Option Nat) (op : IOp) (t : Nat) (want : Bool) : goOps P (⟨d, op, some (t, want)⟩ :: l) σ KS = gIf P (look σ.env t) want d op l σ KS := rfl
theorem g_ifTT (d : Option Nat) (op : IOp) : gIf P (some (.c (.bool true))) true d op l σ KS = goOps P (⟨d, op, none⟩ :: l) σ KS := rfl
theorem g_ifFF (d : Option Nat) (op : IOp) : gIf P (some (.c (.bool false))) false d op l σ KS = goOps P (⟨d, op, none⟩ :: l) σ KS := rfl
theorem g_ifTF (d : Nat) (op : IOp) : gIf P (some (.c (.bool true))) false (some d) op l ⟨e, H⟩ KS = goOps P l ⟨put e d (.tup []), H⟩ KS := rfl
theorem g_ifUT (d : Nat) (op : IOp) (w : Bool) : gIf P (some (.tup [])) w (some d) op l ⟨e, H⟩ KS = goOps P l ⟨put e d (.tup []), H⟩ KS := rfl
theorem g_ifFT (d : Nat) (op : IOp) : gIf P (some (.c (.bool false))) true (some d) op l ⟨e, H⟩ KS = goOps P l ⟨put e d (.tup []), H⟩ KS := rfl
theorem g_put (v : AV) (d : Nat) : gPut P (some v) d l e H KS = goOps P l ⟨put e d v, H⟩ KS := rfl
theorem g_run (s : State) : gRun P (some s) l KS = goOps P l s KS := rfl

/-- Operations that have no way of going on of their own. -/
def IOp.plain : IOp → Bool
  | .call .. | .callp .. | .callx .. | .arr .. | .storeX .. | .appA .. | .isnil .. => false
  | _ => true
theorem act_plain {io : IOper} (hp : io.op.plain = true) : io.act P σ KS = match σ.step io.dst io.op with
    | some σ' => KS σ'
    | none => False := by
  unfold IOper.act
  split <;> first | rfl | (rename_i he; rw [he] at hp; cases hp)
theorem quietGo {d : Nat} {op : IOp} (hq : op.quiet = true) (hc : op.plain = true) : goOps P (⟨some d, op, none⟩ :: l) ⟨e, H⟩ KS = gPut P (State.pure ⟨e, H⟩ op) d l e H KS := by
  simp only [goOps, IOper.go]
  rw [act_plain hc]
  simp only [step_quiet hq]
  cases h : State.pure ⟨e, H⟩ op <;> rfl
theorem ownGo {d : Option Nat} {op : IOp} (hc : op.plain = true) : goOps P (⟨d, op, none⟩ :: l) σ KS = gRun P (σ.step d op) l KS := by
  simp only [goOps, IOper.go]
  rw [act_plain hc]
  cases h : σ.step d op <;> rfl

def p1 (v : Option AV) (f : AV → Option AV) : Option AV := v.bind f
variable {d : Nat}
theorem g_mov (x : Opd) : goOps P (⟨some d, .mov x, none⟩ :: l) ⟨e, H⟩ KS = gPut P (State.ev ⟨e, H⟩ x) d l e H KS := quietGo rfl rfl
theorem g_pick (c a b : Opd) : goOps P (⟨some d, .pick c a b, none⟩ :: l) ⟨e, H⟩ KS = gPut P (State.pure ⟨e, H⟩ (.pick c a b)) d l e H KS := quietGo rfl rfl
theorem g_bin (op : BinOp) (a b : Opd) : goOps P (⟨some d, .bin op a b, none⟩ :: l) ⟨e, H⟩ KS = gPut P (State.pure ⟨e, H⟩ (.bin op a b)) d l e H KS := quietGo rfl rfl
theorem g_binb (op : BinOp) (a b : Opd) : goOps P (⟨some d, .binb op a b, none⟩ :: l) ⟨e, H⟩ KS = gPut P (State.pure ⟨e, H⟩ (.binb op a b)) d l e H KS := quietGo rfl rfl
theorem g_eqa (n : Bool) (ks : List Nat) (a b : Opd) : goOps P (⟨some d, .eqa n ks a b, none⟩ :: l) ⟨e, H⟩ KS = gPut P (State.pure ⟨e, H⟩ (.eqa n ks a b)) d l e H KS := quietGo rfl rfl
theorem g_not (x : Opd) : goOps P (⟨some d, .not x, none⟩ :: l) ⟨e, H⟩ KS = gPut P (State.pure ⟨e, H⟩ (.not x)) d l e H KS := quietGo rfl rfl
theorem g_neg (x : Opd) : goOps P (⟨some d, .neg x, none⟩ :: l) ⟨e, H⟩ KS = gPut P (State.pure ⟨e, H⟩ (.neg x)) d l e H KS := quietGo rfl rfl
theorem g_toInt (k : IntKind) (x : Opd) : goOps P (⟨some d, .toInt k x, none⟩ :: l) ⟨e, H⟩ KS = gPut P (State.pure ⟨e, H⟩ (.toInt k x)) d l e H KS := quietGo rfl rfl
theorem g_s2s (x : Opd) : goOps P (⟨some d, .s2s x, none⟩ :: l) ⟨e, H⟩ KS = gPut P (State.pure ⟨e, H⟩ (.s2s x)) d l e H KS := quietGo rfl rfl
theorem g_b2s (x : Opd) : goOps P (⟨some d, .b2s x, none⟩ :: l) ⟨e, H⟩ KS = gPut P (State.pure ⟨e, H⟩ (.b2s x)) d l e H KS := quietGo rfl rfl
theorem g_load (n : Option Nat) (x : Opd) : goOps P (⟨some d, .load n x, none⟩ :: l) ⟨e, H⟩ KS = gPut P (State.pure ⟨e, H⟩ (.load n x)) d l e H KS := quietGo rfl rfl
theorem g_faddr (n : Nat) (x : Opd) : goOps P (⟨some d, .faddr n x, none⟩ :: l) ⟨e, H⟩ KS = gPut P (State.pure ⟨e, H⟩ (.faddr n x)) d l e H KS := quietGo rfl rfl
theorem g_field (o : Nat) (n : Option Nat) (x : Opd) : goOps P (⟨some d, .field o n x, none⟩ :: l) ⟨e, H⟩ KS = gPut P (State.pure ⟨e, H⟩ (.field o n x)) d l e H KS := quietGo rfl rfl
theorem g_iaddr (n : Nat) (x i : Opd) : goOps P (⟨some d, .iaddr n x i, none⟩ :: l) ⟨e, H⟩ KS = gPut P (State.pure ⟨e, H⟩ (.iaddr n x i)) d l e H KS := quietGo rfl rfl
theorem g_aaddr (n m : Nat) (x i : Opd) : goOps P (⟨some d, .aaddr n m x i, none⟩ :: l) ⟨e, H⟩ KS = gPut P (State.pure ⟨e, H⟩ (.aaddr n m x i)) d l e H KS := quietGo rfl rfl
theorem g_sidx (x i : Opd) : goOps P (⟨some d, .sidx x i, none⟩ :: l) ⟨e, H⟩ KS = gPut P (State.pure ⟨e, H⟩ (.sidx x i)) d l e H KS := quietGo rfl rfl
theorem g_aidx (n m : Nat) (o : Option Nat) (x i : Opd) : goOps P (⟨some d, .aidx n m o x i, none⟩ :: l) ⟨e, H⟩ KS = gPut P (State.pure ⟨e, H⟩ (.aidx n m o x i)) d l e H KS := quietGo rfl rfl
theorem g_extract (x : Opd) (i : Nat) : goOps P (⟨some d, .extract x i, none⟩ :: l) ⟨e, H⟩ KS = gPut P (State.pure ⟨e, H⟩ (.extract x i)) d l e H KS := quietGo rfl rfl
theorem g_slen (x : Opd) : goOps P (⟨some d, .slen x, none⟩ :: l) ⟨e, H⟩ KS = gPut P (State.pure ⟨e, H⟩ (.slen x)) d l e H KS := quietGo rfl rfl
theorem g_len (x : Opd) : goOps P (⟨some d, .len x, none⟩ :: l) ⟨e, H⟩ KS = gPut P (State.pure ⟨e, H⟩ (.len x)) d l e H KS := quietGo rfl rfl
theorem g_mx (xs : List Opd) : goOps P (⟨some d, .mx xs, none⟩ :: l) ⟨e, H⟩ KS = gPut P (State.pure ⟨e, H⟩ (.mx xs)) d l e H KS := quietGo rfl rfl
theorem g_mn (xs : List Opd) : goOps P (⟨some d, .mn xs, none⟩ :: l) ⟨e, H⟩ KS = gPut P (State.pure ⟨e, H⟩ (.mn xs)) d l e H KS := quietGo rfl rfl
theorem g_sstr (x : Opd) (a b : Option Opd) : goOps P (⟨some d, .sstr x a b, none⟩ :: l) ⟨e, H⟩ KS = gPut P (State.pure ⟨e, H⟩ (.sstr x a b)) d l e H KS := quietGo rfl rfl
theorem g_slst (n : Nat) (x : Opd) (a b c : Option Opd) : goOps P (⟨some d, .slst n x a b c, none⟩ :: l) ⟨e, H⟩ KS = gPut P (State.pure ⟨e, H⟩ (.slst n x a b c)) d l e H KS := quietGo rfl rfl
theorem g_s2a (n : Nat) (x : Opd) : goOps P (⟨some d, .s2a n x, none⟩ :: l) ⟨e, H⟩ KS = gPut P (State.pure ⟨e, H⟩ (.s2a n x)) d l e H KS := quietGo rfl rfl
theorem g_mkfn (n : Nat) (xs : List Opd) : goOps P (⟨some d, .mkfn n xs, none⟩ :: l) ⟨e, H⟩ KS = gPut P (State.pure ⟨e, H⟩ (.mkfn n xs)) d l e H KS := quietGo rfl rfl
theorem g_build (cs : List AC) (ps : List (Nat × Nat × Opd)) : goOps P (⟨some d, .build cs ps, none⟩ :: l) ⟨e, H⟩ KS = gPut P ((State.pure.fillC ⟨e, H⟩ cs ps).map .agg) d l e H KS := quietGo rfl rfl

theorem g_alloc (cs : List AC) : goOps P (⟨some d, .alloc cs, none⟩ :: l) ⟨e, H⟩ KS = goOps P l ⟨put e d (.c (.ptr (some (H.length, 0)))), H ++ [.cells cs]⟩ KS := ownGo rfl
def pMovT (v : Option AV) (s d : Nat) (e : List (Nat × AV)) (H : List Blk) : Option State := v.bind fun v => if s ≠ d then some ⟨put (put e s v.share) d v, H⟩ else none
theorem g_movT (s : Nat) : goOps P (⟨some d, .movT s, none⟩ :: l) ⟨e, H⟩ KS = gRun P (pMovT (look e s) s d e H) l KS := by
  rw [ownGo rfl]; congr 1; simp only [State.step, pMovT]; cases look e s <;> rfl
theorem p_movT (v : AV) (s : Nat) : pMovT (some v) s d e H = if s = d then none else some ⟨put (put e s v.share) d v, H⟩ := by
  by_cases h : s = d <;> simp [pMovT, h]
theorem g_box (x : Opd) : goOps P (⟨some d, .box x, none⟩ :: l) ⟨e, H⟩ KS = gRun P (State.step ⟨e, H⟩ (some d) (.box x)) l KS := ownGo rfl
theorem g_bsl (a b c : Nat) (z : List AC) (ps : List (Nat × Nat × Opd)) : goOps P (⟨some d, .bsl a b c z ps, none⟩ :: l) ⟨e, H⟩ KS = gRun P (State.step ⟨e, H⟩ (some d) (.bsl a b c z ps)) l KS := ownGo rfl
theorem g_s2b (n : Nat) (x : Opd) : goOps P (⟨some d, .s2b n x, none⟩ :: l) ⟨e, H⟩ KS = gRun P (State.step ⟨e, H⟩ (some d) (.s2b n x)) l KS := ownGo rfl
theorem g_loadT (x : Opd) : goOps P (⟨some d, .loadT x, none⟩ :: l) ⟨e, H⟩ KS = gRun P (State.step ⟨e, H⟩ (some d) (.loadT x)) l KS := ownGo rfl
theorem g_store (d : Option Nat) (n : Nat) (x v : Opd) : goOps P (⟨d, .store n x v, none⟩ :: l) ⟨e, H⟩ KS = gRun P (State.step ⟨e, H⟩ d (.store n x v)) l KS := ownGo rfl
theorem g_appA (a b c : Nat) (z : List AC) (s x : Opd) : goOps P (⟨some d, .appA a b c z s x, none⟩ :: l) ⟨e, H⟩ KS = ∀ extra, extra ≤ maxLen → gRun P (State.stepA ⟨e, H⟩ (some d) a b c z s x extra) l KS := by
  simp only [goOps, IOper.go, IOper.act, gRun]
  apply propext
  refine forall_congr' fun extra => forall_congr' fun _ => ?_
  cases State.stepA ⟨e, H⟩ (some d) a b c z s x extra <;> rfl
theorem g_frz (s : Nat) : goOps P (⟨some d, .frz s, none⟩ :: l) ⟨e, H⟩ KS = gRun P (State.step ⟨e, H⟩ (some d) (.frz s)) l KS := ownGo rfl
theorem g_append (a b c : Nat) (s x : Opd) : goOps P (⟨some d, .append a b c s x, none⟩ :: l) ⟨e, H⟩ KS = gRun P (State.step ⟨e, H⟩ (some d) (.append a b c s x)) l KS := ownGo rfl

theorem g_srt : goOps P (⟨none, .srt, none⟩ :: l) ⟨e, H⟩ KS = (srtB e = true ∧ goOps P l ⟨e, H⟩ KS) := by
  rw [ownGo rfl]; simp only [State.step]
  cases h : srtB e <;> simp [gRun]
theorem srt_nil : srtB [] = true := rfl
theorem srt_one (t : Nat) (v : AV) : srtB [(t, v)] = true := rfl
theorem srt_cons (s t : Nat) (u v : AV) (r : List (Nat × AV)) : srtB ((s, u) :: (t, v) :: r) = (decide (s < t) && srtB ((t, v) :: r)) := rfl
theorem g_asl (a b : Nat) (x : Opd) : goOps P (⟨some d, .asl a b x, none⟩ :: l) ⟨e, H⟩ KS = gRun P (State.step ⟨e, H⟩ (some d) (.asl a b x)) l KS := ownGo rfl
theorem g_isnil {neg : Bool} {x : Opd} {lv k : Nat} {xs : List (List AC)} (h : State.ev ⟨e, H⟩ x = some (.c (.list lv k xs))) (hg : ∀ b, (b = true → xs = []) → goOps P l ⟨put e d (.c (.bool (b != neg))), H⟩ KS) :
    goOps P (⟨some d, .isnil neg x, none⟩ :: l) ⟨e, H⟩ KS := by
  simp only [goOps, IOper.go, IOper.act, nilGo, h]
  cases xs with
  | nil => exact ⟨⟨⟨d, rfl⟩, hg true fun _ => rfl⟩, ⟨d, rfl⟩, hg false (by simp)⟩
  | cons y ys => exact ⟨⟨d, rfl⟩, hg false (by simp)⟩
theorem g_arr (d : Option Nat) (x : AOp) : goOps P (⟨d, .arr x, none⟩ :: l) σ KS = arrGo P σ d (opsK P l KS) x := rfl
theorem g_storeX (d : Option Nat) (ts : List Nat) (n : Nat) (x v : Opd) : goOps P (⟨d, .storeX ts n x v, none⟩ :: l) σ KS = (σ.apart ts x = true ∧ gRun P (σ.step d (.store n x v)) l KS) := by
  simp only [goOps, IOper.go, IOper.act]
  cases σ.step d (.store n x v) <;> rfl
theorem blk_ptr (i o : Nat) : blkOf (.c (.ptr (some (i, o)))) = some i := rfl
theorem blk_aptr (i k j o : Nat) : blkOf (.c (.aptr i k j o)) = some i := rfl
theorem blk_int (k : IntKind) (n : Int) : blkOf (.c (.int k n)) = none := rfl
theorem blk_eptr (cs : List AC) : blkOf (.c (.eptr cs)) = none := rfl
theorem blk_tup (vs : List AV) : blkOf (.tup vs) = none := rfl
def apC (v : Option Nat) (id : Nat) : Bool := match v with
  | some i => decide (i ≠ id)
  | none => true
def apA (v : Option Nat) (e : List (Nat × AV)) (ts : List Nat) : Bool := match v with
  | some id => ts.all fun t => apC ((look e t).bind blkOf) id
  | none => false
theorem g_apart (ts : List Nat) (x : Opd) : State.apart ⟨e, H⟩ ts x = apA ((State.ev ⟨e, H⟩ x).bind blkOf) e ts := by
  unfold State.apart apA
  cases (State.ev ⟨e, H⟩ x).bind blkOf with
  | none => rfl
  | some id =>
    simp only
    congr 1
    funext t
    cases (look e t).bind blkOf with
    | none => rfl
    | some i =>
      simp only [apC]
      by_cases h : i = id
      · subst h; simp
      · simp [h]
theorem apA_nil (id : Nat) : apA (some id) e [] = true := rfl
theorem apA_cons (id t : Nat) (ts : List Nat) : apA (some id) e (t :: ts) = (apC ((look e t).bind blkOf) id && apA (some id) e ts) := rfl
theorem apC_some (i id : Nat) : apC (some i) id = decide (i ≠ id) := rfl
theorem apC_none (id : Nat) : apC none id = true := rfl
theorem nbind : (none : Option AV).bind blkOf = none := rfl
theorem hand_n : Hand AV.norm := .inl rfl
theorem hand_s : Hand AV.share := .inr rfl
theorem hand_iff {f : Nat} {us : List AV} {Q : AV → List Blk → Prop} : (∃ nf, Hand nf ∧ RunsQ P f (us.map nf) H Q) ↔ (RunsQ P f (us.map AV.norm) H Q ∨ RunsQ P f (us.map AV.share) H Q) := by
  constructor
  · rintro ⟨nf, rfl | rfl, h⟩
    · exact .inl h
    · exact .inr h
  · rintro (h | h)
    · exact ⟨_, hand_n, h⟩
    · exact ⟨_, hand_s, h⟩
/-- md: 0 a call, 1 one that knows no listed block, 2 one that leaves the listed blocks. vs: the arguments as others read them; vs': with what is known of their capacity. -/
def gCallN (P : Program) (fid : Nat) (vs vs' : List AV) (md : Nat) (d : Nat) (l : List IOper) (e : List (Nat × AV)) (H : List Blk) (K : State → Prop) : Prop :=
  (∃ r, RunsTo P fid vs [] r [] ∧ vs.all (AV.all AC.free) = true ∧ r.all AC.res = true ∧ goOps P l ⟨put e d r, H⟩ K) ∨
    (md ≠ 1 ∧ ∃ Q, (RunsQ P fid vs H Q ∨ RunsQ P fid vs' H Q) ∧ ∀ r H', Q r H' → (md = 2 → HSim H H') ∧ goOps P l ⟨put e d r, H'⟩ K)
def gCall (P : Program) (f : Option AV) (us : Option (List AV)) (md : Nat) (d : Nat) (l : List IOper) (e : List (Nat × AV)) (H : List Blk) (K : State → Prop) : Prop :=
  ∃ fid caps vs, f = some (.c (.fn fid caps)) ∧ us = some vs ∧ gCallN P fid ((vs ++ caps.map AV.c).map AV.norm) ((vs ++ caps.map AV.c).map AV.share) md d l e H K
theorem g_call (f : Opd) (args : List Opd) : goOps P (⟨some d, .call f args, none⟩ :: l) ⟨e, H⟩ KS = gCall P (State.ev ⟨e, H⟩ f) (State.evs ⟨e, H⟩ args) 0 d l e H KS := by
  refine propext ⟨fun h => ?_, fun h => ?_⟩
  · obtain ⟨fid, caps, us, h1, h2, _, h4⟩ := (h : callGo P ⟨e, H⟩ (some d) f args fun σ' => goOps P l σ' KS)
    exact ⟨fid, caps, us, h1, h2, h4.imp (fun h => h) fun ⟨Q, nf, hnf, q1, q2⟩ => ⟨by decide, Q, hand_iff.1 ⟨nf, hnf, q1⟩, fun r H' hq => ⟨fun h => (by cases h), q2 r H' hq⟩⟩⟩
  · obtain ⟨fid, caps, us, h1, h2, h4⟩ := h
    refine (⟨fid, caps, us, h1, h2, ⟨d, rfl⟩, h4.imp (fun h => h) fun ⟨_, Q, q1, q2⟩ => ?_⟩ : callGo P ⟨e, H⟩ (some d) f args fun σ' => goOps P l σ' KS)
    obtain ⟨nf, hnf, q1⟩ := hand_iff.2 q1
    exact ⟨Q, nf, hnf, q1, fun r H' hq => (q2 r H' hq).2⟩
theorem g_callq (f : Opd) (args : List Opd) : goOps P (⟨some d, .callp f args, none⟩ :: l) ⟨e, H⟩ KS = gCall P (State.ev ⟨e, H⟩ f) (State.evs ⟨e, H⟩ args) 1 d l e H KS := by
  refine propext ⟨fun h => ?_, fun h => ?_⟩
  · obtain ⟨fid, caps, us, r, h1, h2, _, h4, h5, h6, h7⟩ := (h : callPGo P ⟨e, H⟩ (some d) f args fun σ' => goOps P l σ' KS)
    exact ⟨fid, caps, us, h1, h2, .inl ⟨r, h4, h5, h6, h7⟩⟩
  · obtain ⟨fid, caps, us, h1, h2, ⟨r, h4, h5, h6, h7⟩ | ⟨h4, _⟩⟩ := h
    · exact (⟨fid, caps, us, r, h1, h2, ⟨d, rfl⟩, h4, h5, h6, h7⟩ : callPGo P ⟨e, H⟩ (some d) f args fun σ' => goOps P l σ' KS)
    · exact absurd rfl h4
theorem g_callx (f : Opd) (args : List Opd) : goOps P (⟨some d, .callx f args, none⟩ :: l) ⟨e, H⟩ KS = gCall P (State.ev ⟨e, H⟩ f) (State.evs ⟨e, H⟩ args) 2 d l e H KS := by
  refine propext ⟨fun h => ?_, fun h => ?_⟩
  · obtain ⟨fid, caps, us, h1, h2, _, h4⟩ := (h : callXGo P ⟨e, H⟩ (some d) f args fun σ' => goOps P l σ' KS)
    exact ⟨fid, caps, us, h1, h2, h4.imp (fun h => h) fun ⟨Q, nf, hnf, q1, q2⟩ => ⟨by decide, Q, hand_iff.1 ⟨nf, hnf, q1⟩, fun r H' hq => ⟨fun _ => (q2 r H' hq).1, (q2 r H' hq).2⟩⟩⟩
  · obtain ⟨fid, caps, us, h1, h2, h4⟩ := h
    refine (⟨fid, caps, us, h1, h2, ⟨d, rfl⟩, h4.imp (fun h => h) fun ⟨_, Q, q1, q2⟩ => ?_⟩ : callXGo P ⟨e, H⟩ (some d) f args fun σ' => goOps P l σ' KS)
    obtain ⟨nf, hnf, q1⟩ := hand_iff.2 q1
    exact ⟨Q, nf, hnf, q1, fun r H' hq => ⟨(q2 r H' hq).1 rfl, (q2 r H' hq).2⟩⟩
theorem g_callN (fid : Nat) (caps : List AC) (vs : List AV) (md : Nat) : gCall P (some (.c (.fn fid caps))) (some vs) md d l e H KS = gCallN P fid ((vs ++ caps.map AV.c).map AV.norm) ((vs ++ caps.map AV.c).map AV.share) md d l e H KS := by
  refine propext ⟨fun h => ?_, fun h => ?_⟩
  · obtain ⟨fid', caps', vs', h1, h2, h⟩ := h
    injection h1 with h1; injection h1 with h1; injection h1 with h1 h1'
    injection h2 with h2
    subst h1; subst h1'; subst h2
    exact h
  · exact ⟨fid, caps, vs, rfl, rfl, h⟩
theorem call_pure {fid : Nat} {vs vs' : List AV} {md : Nat} {r : AV} (h3 : RunsTo P fid vs [] r []) (h4 : vs.all (AV.all AC.free) = true) (h5 : r.all AC.res = true) (hgo : goOps P l ⟨put e d r, H⟩ KS) : gCallN P fid vs vs' md d l e H KS :=
  .inl ⟨r, h3, h4, h5, hgo⟩
theorem call_Q {fid : Nat} {vs vs' : List AV} {md : Nat} {Q : AV → List Blk → Prop} (hmd : md ≠ 1) (h3 : RunsQ P fid vs H Q) (hgo : ∀ r H', Q r H' → (md = 2 → HSim H H') ∧ goOps P l ⟨put e d r, H'⟩ KS) : gCallN P fid vs vs' md d l e H KS :=
  .inr ⟨hmd, Q, .inl h3, hgo⟩
/-- .. its arguments with what is known of their capacity. -/
theorem call_Qs {fid : Nat} {vs vs' : List AV} {md : Nat} {Q : AV → List Blk → Prop} (hmd : md ≠ 1) (h3 : RunsQ P fid vs' H Q) (hgo : ∀ r H', Q r H' → (md = 2 → HSim H H') ∧ goOps P l ⟨put e d r, H'⟩ KS) : gCallN P fid vs vs' md d l e H KS :=
  .inr ⟨hmd, Q, .inr h3, hgo⟩
/-- A call that leaves the listed blocks as they were. -/
theorem call_same {fid : Nat} {vs vs' : List AV} {md : Nat} {r : AV} (hmd : md ≠ 1) (h3 : RunsTo P fid vs H r H) (hgo : goOps P l ⟨put e d r, H⟩ KS) : gCallN P fid vs vs' md d l e H KS :=
  call_Q hmd h3.toQ fun r' H' ⟨h1, h2⟩ => by subst h1; subst h2; exact ⟨fun _ => HSim.refl _, hgo⟩
theorem call_heap {fid : Nat} {vs vs' : List AV} {r : AV} {H' : List Blk} (h3 : RunsTo P fid vs H r H') (hgo : goOps P l ⟨put e d r, H'⟩ KS) : gCallN P fid vs vs' 0 d l e H KS :=
  call_Q (by decide) h3.toQ fun r' H' ⟨h1, h2⟩ => by subst h1; subst h2; exact ⟨fun h => (by cases h), hgo⟩
theorem bslv_0 : bslv 0 = 1 := rfl
theorem bslv_s (n : Nat) : bslv (n + 1) = 2 := rfl
theorem bslv_1 : bslv 1 = 2 := rfl
theorem bslv_2 : bslv 2 = 2 := rfl
theorem bslv_3 : bslv 3 = 2 := rfl
theorem bslv_4 : bslv 4 = 2 := rfl
theorem bneTF : (true != false) = true := rfl
theorem bneFT : (false != true) = true := rfl
theorem bneTT : (true != true) = false := rfl
theorem bneFF : (false != false) = false := rfl
theorem chunk_0 (k : Nat) (l : List AC) : chunk 0 k l = [] := rfl
theorem chunk_1 (k : Nat) (l : List AC) : chunk 1 k l = [(l.take k).map AC.norm] := rfl
theorem chunk_2 (k : Nat) (l : List AC) : chunk 2 k l = [(l.take k).map AC.norm, ((l.drop k).take k).map AC.norm] := rfl
theorem chunk_3 (k : Nat) (l : List AC) : chunk 3 k l = [(l.take k).map AC.norm, ((l.drop k).take k).map AC.norm, (((l.drop k).drop k).take k).map AC.norm] := rfl
theorem heap_last (H : List Blk) (b : Blk) : (H ++ [b])[H.length]? = some b := by simp
theorem heap_b1 (H : List Blk) (b c : Blk) : (H ++ [b] ++ [c])[H.length]? = some b := by simp
theorem heap_b2 (H : List Blk) (b c d : Blk) : (H ++ [b] ++ [c] ++ [d])[H.length]? = some b := by simp
theorem heap_b3 (H : List Blk) (b c d f : Blk) : (H ++ [b] ++ [c] ++ [d] ++ [f])[H.length]? = some b := by simp
theorem set_b1 (H : List Blk) (b c x : Blk) : (H ++ [b] ++ [c]).set H.length x = H ++ [x] ++ [c] := by simp
theorem set_b2 (H : List Blk) (b c d x : Blk) : (H ++ [b] ++ [c] ++ [d]).set H.length x = H ++ [x] ++ [c] ++ [d] := by simp
theorem set_last (H : List Blk) (b c : Blk) : (H ++ [b]).set H.length c = H ++ [c] := by simp
theorem cells_agg (cs : List AC) : AV.cells (.agg cs) = cs := rfl
theorem cells_c (a : AC) : AV.cells (.c a) = [a] := rfl
theorem del_some (d : Nat) : State.del ⟨e, H⟩ (some d) = ⟨put e d (.tup []), H⟩ := rfl
theorem del_none : State.del σ none = σ := rfl
theorem g_condN (b : Bool) (x y : IR) : gCond P (some (.c (.bool (!b)))) x y σ K = gCond P (some (.c (.bool b))) y x σ K := by cases b <;> rfl
theorem g_ifNT (b : Bool) (d : Option Nat) (op : IOp) : gIf P (some (.c (.bool (!b)))) true d op l σ KS = gIf P (some (.c (.bool b))) false d op l σ KS := by cases b <;> rfl
theorem g_ifNF (b : Bool) (d : Option Nat) (op : IOp) : gIf P (some (.c (.bool (!b)))) false d op l σ KS = gIf P (some (.c (.bool b))) true d op l σ KS := by cases b <;> rfl
theorem gIf_dT {p : Prop} [Decidable p] {d : Option Nat} {op : IOp} (h1 : p → p = True → goOps P (⟨d, op, none⟩ :: l) σ KS) (h2 : ¬ p → p = False → goOps P l (σ.del d) KS) : gIf P (some (.c (.bool (decide p)))) true d op l σ KS := by
  by_cases h : p
  · simpa [gIf, h] using h1 h (eq_true h)
  · simpa [gIf, h] using h2 h (eq_false h)
theorem gIf_dF {p : Prop} [Decidable p] {d : Option Nat} {op : IOp} (h1 : p → p = True → goOps P l (σ.del d) KS) (h2 : ¬ p → p = False → goOps P (⟨d, op, none⟩ :: l) σ KS) : gIf P (some (.c (.bool (decide p)))) false d op l σ KS := by
  by_cases h : p
  · simpa [gIf, h] using h1 h (eq_true h)
  · simpa [gIf, h] using h2 h (eq_false h)
theorem gCond_d {p : Prop} [Decidable p] {x y : IR} (h1 : p → p = True → x.go P σ K) (h2 : ¬ p → p = False → y.go P σ K) : gCond P (some (.c (.bool (decide p)))) x y σ K := by
  by_cases h : p
  · simpa [gCond, h] using h1 h (eq_true h)
  · simpa [gCond, h] using h2 h (eq_false h)
theorem gIf_bT {b : Bool} {d : Option Nat} {op : IOp} (h1 : b = true → b = true → goOps P (⟨d, op, none⟩ :: l) σ KS) (h2 : b = false → b = false → goOps P l (σ.del d) KS) : gIf P (some (.c (.bool b))) true d op l σ KS := by
  cases b
  · exact h2 rfl rfl
  · exact h1 rfl rfl
theorem gIf_bF {b : Bool} {d : Option Nat} {op : IOp} (h1 : b = true → b = true → goOps P l (σ.del d) KS) (h2 : b = false → b = false → goOps P (⟨d, op, none⟩ :: l) σ KS) : gIf P (some (.c (.bool b))) false d op l σ KS := by
  cases b
  · exact h2 rfl rfl
  · exact h1 rfl rfl
theorem gCond_b {b : Bool} {x y : IR} (h1 : b = true → b = true → x.go P σ K) (h2 : b = false → b = false → y.go P σ K) : gCond P (some (.c (.bool b))) x y σ K := by
  cases b
  · exact h2 rfl rfl
  · exact h1 rfl rfl
theorem gCond_split {b : Bool} {x y : IR} (h1 : b = true → x.go P σ K) (h2 : b = false → y.go P σ K) : gCond P (some (.c (.bool b))) x y σ K := by
  cases b
  · exact h2 rfl
  · exact h1 rfl
theorem gIf_split {b want : Bool} {d : Option Nat} {op : IOp} (h1 : b = want → goOps P (⟨d, op, none⟩ :: l) σ KS) (h2 : b = !want → goOps P l (σ.del d) KS) : gIf P (some (.c (.bool b))) want d op l σ KS := by
  cases b <;> cases want <;> first | exact h1 rfl | exact h2 rfl

/-! Loops: one round more. -/
theorem go_mono : ∀ (ir : IR) {K K' : AX → State → Prop} (h : ∀ e s, K e s → K' e s) {σ : State}, ir.go P σ K → ir.go P σ K' := by
  intro ir
  induction ir with
  | ghost l =>
    intro K K' h σ hg
    simp only [IR.go] at hg ⊢
    split at hg
    · exact h _ _ hg
    · exact hg.elim
  | regionT t ks => intro K K' h σ hg; exact goT_mono t (fun s hs => h _ _ hs) hg
  | skip => intro K K' h σ hg; exact h _ _ hg
  | region ops ks => intro K K' h σ hg; exact goOps_mono ops (fun s hs => h _ _ hs) hg
  | seq a b iha ihb =>
    intro K K' h σ hg
    refine iha (fun e s hs => ?_) hg
    cases e with
    | n => exact ihb h hs
    | x i => exact h _ _ hs
    | r => exact h _ _ hs
  | cond c a b iha ihb =>
    intro K K' h σ hg
    simp only [IR.go] at hg ⊢
    split at hg
    · rename_i t ht
      cases t
      · exact ihb h hg
      · exact iha h hg
    · exact hg.elim
  | block id b ih =>
    intro K K' h σ hg
    refine ih (fun e s hs => ?_) hg
    cases e with
    | n => exact h _ _ hs
    | x i => 
      simp only at hs ⊢
      split at hs
      · rename_i hi; rw [if_pos hi]; exact h _ _ hs
      · rename_i hi; rw [if_neg hi]; exact h _ _ hs
    | r => exact h _ _ hs
  | loop ks b ih =>
    intro K K' h σ hg X hX
    refine hg X fun s hs => hX s (ih (fun e s he => ?_) hs)
    cases e with
    | n => exact he
    | x i => exact h _ _ he
    | r => exact h _ _ he
  | exit id => intro K K' h σ hg; exact h _ _ hg
  | ret => intro K K' h σ hg; exact h _ _ hg
def lpK (P : Program) (ks : List Nat) (b : IR) (K : AX → State → Prop) : AX → State → Prop
  | .n, σ => (IR.loop ks b).go P σ K
  | e, σ => K e σ
theorem lpK_n (ks : List Nat) (b : IR) : lpK P ks b K .n σ = (IR.loop ks b).go P σ K := rfl
theorem lpK_x (ks : List Nat) (b : IR) (i : Nat) : lpK P ks b K (.x i) σ = K (.x i) σ := rfl
theorem lpK_r (ks : List Nat) (b : IR) : lpK P ks b K .r σ = K .r σ := rfl
theorem go_loop {ks : List Nat} {b : IR} (h : ∀ L, L = lpK P ks b K → b.go P ⟨kill e ks, H⟩ L) : (IR.loop ks b).go P ⟨e, H⟩ K := by
  intro X hX
  refine hX _ (go_mono b (fun x s hs => ?_) (h _ rfl))
  cases x with
  | n => exact hs X hX
  | x i => exact hs
  | r => exact hs
/-! Regions that are walked in several orders. -/
def goTK (P : Program) (t : OpT) (K : State → Prop) (σ : State) : Prop := goT P t σ K
theorem g_regionT (t : OpT) (ks : List Nat) : IR.go P (.regionT t ks) σ K = goT P t σ (regK ks K) := rfl
theorem g_goTK (t : OpT) : goTK P t KS σ = goT P t σ KS := rfl
theorem g_Tnil : goT P .nil σ KS = KS σ := rfl
theorem g_Top (o : IOper) (t : OpT) : goT P (.op o t) σ KS = goOps P [o] σ (goTK P t KS) := rfl
def goTB (P : Program) (t : OpT) (K : State → Prop) (σ : State) : Prop := goT P t σ K
theorem g_goTB (t : OpT) : goTB P t KS σ = goT P t σ KS := rfl
theorem g_Tboth (a b : OpT) : goT P (.both a b) σ KS = (goTB P a KS σ ∧ goTB P b KS σ) := rfl
/-! Ghosts. -/
def ghK (P : Program) (v : Option State) (K : AX → State → Prop) : Prop := match v with
  | some s => K .n s
  | none => False
theorem g_ghost (l : List Ghost) : IR.go P (.ghost l) σ K = ghK P (σ.ghosts l) K := rfl
theorem ghK_some (s : State) : ghK P (some s) K = K .n s := rfl
/-! Values. -/
theorem ev_t (t : Nat) : State.ev ⟨e, H⟩ (.t t) = (look e t).map AV.share := rfl
theorem ev_c (v : AV) : State.ev ⟨e, H⟩ (.c v) = some v := rfl
theorem raw_t (t : Nat) : State.raw ⟨e, H⟩ (.t t) = look e t := rfl
theorem raw_c (v : AV) : State.raw ⟨e, H⟩ (.c v) = some v := rfl
theorem take_c (v : AV) : State.take ⟨e, H⟩ (.c v) = ⟨e, H⟩ := rfl
def takeE (e : List (Nat × AV)) (s : Nat) : Option AV → List (Nat × AV)
  | some v => put e s v.share
  | none => e
theorem take_t (s : Nat) : State.take ⟨e, H⟩ (.t s) = ⟨takeE e s (look e s), H⟩ := by
  simp only [State.take]; cases look e s <;> rfl
theorem take_some (s : Nat) (v : AV) : takeE e s (some v) = put e s v.share := rfl
theorem share_int (k : IntKind) (n : Int) : AV.share (.c (.int k n)) = .c (.int k n) := rfl
theorem share_bool (b : Bool) : AV.share (.c (.bool b)) = .c (.bool b) := rfl
theorem share_str (b : ByteArray) : AV.share (.c (.str b)) = .c (.str b) := rfl
theorem share_l0 (k : Nat) (xs : List (List AC)) : AV.share (.c (.list 0 k xs)) = .c (.list 0 k xs) := rfl
theorem share_l1 (k : Nat) (xs : List (List AC)) : AV.share (.c (.list 1 k xs)) = .c (.list 1 k xs) := rfl
theorem share_l2 (k : Nat) (xs : List (List AC)) : AV.share (.c (.list 2 k xs)) = .c (.list 0 k xs) := rfl
theorem share_ptr (p : Option (Nat × Nat)) : AV.share (.c (.ptr p)) = .c (.ptr p) := rfl
theorem share_eptr (cs : List AC) : AV.share (.c (.eptr cs)) = .c (.eptr cs) := rfl
theorem share_sl (a b c d q : Nat) : AV.share (.c (.sl a b c d q)) = .c (.sl a b c d q) := rfl
theorem share_aptr (a b c d : Nat) : AV.share (.c (.aptr a b c d)) = .c (.aptr a b c d) := rfl
theorem share_fn (f : Nat) (cs : List AC) : AV.share (.c (.fn f cs)) = .c (.fn f cs) := rfl
theorem share_nilfn : AV.share (.c .nilfn) = .c .nilfn := rfl
theorem share_map (i : Nat) : AV.share (.c (.map i)) = .c (.map i) := rfl
/-- A component of several results. -/
def AV.shareE : AV → AV
  | .c a => .c a.share
  | .agg cs => .agg (cs.map AC.share)
  | .tup _ => .tup []
theorem share_tup (vs : List AV) : (AV.tup vs).share = .tup (vs.map AV.shareE) := by
  simp only [AV.share, AV.tup.injEq]
  apply List.map_congr_left
  intro v _
  cases v <;> rfl
theorem shareE_c (a : AC) : AV.shareE (.c a) = .c a.share := rfl
theorem shareE_agg (cs : List AC) : AV.shareE (.agg cs) = .agg (cs.map AC.share) := rfl
theorem share_agg (cs : List AC) : AV.share (.agg cs) = .agg (cs.map AC.share) := rfl
theorem sh_int (k : IntKind) (n : Int) : AC.share (.int k n) = .int k n := rfl
theorem sh_bool (b : Bool) : AC.share (.bool b) = .bool b := rfl
theorem sh_str (b : ByteArray) : AC.share (.str b) = .str b := rfl
theorem sh_l0 (k : Nat) (xs : List (List AC)) : AC.share (.list 0 k xs) = .list 0 k xs := rfl
theorem sh_l1 (k : Nat) (xs : List (List AC)) : AC.share (.list 1 k xs) = .list 1 k xs := rfl
theorem sh_l2 (k : Nat) (xs : List (List AC)) : AC.share (.list 2 k xs) = .list 0 k xs := rfl
theorem sh_ptr (p : Option (Nat × Nat)) : AC.share (.ptr p) = .ptr p := rfl
theorem sh_eptr (cs : List AC) : AC.share (.eptr cs) = .eptr cs := rfl
theorem sh_sl (a b c d q : Nat) : AC.share (.sl a b c d q) = .sl a b c d q := rfl
theorem sh_aptr (a b c d : Nat) : AC.share (.aptr a b c d) = .aptr a b c d := rfl
theorem setD_mk (d : Nat) (v : AV) : State.setD ⟨e, H⟩ (some d) v = ⟨put e d v, H⟩ := rfl
theorem setD_no (v : AV) : State.setD ⟨e, H⟩ none v = ⟨e, H⟩ := rfl
theorem sh_fn (f : Nat) (cs : List AC) : AC.share (.fn f cs) = .fn f cs := rfl
theorem sh_nilfn : AC.share .nilfn = .nilfn := rfl
theorem sh_map (i : Nat) : AC.share (.map i) = .map i := rfl
theorem nm_int (k : IntKind) (n : Int) : AC.norm (.int k n) = .int k n := rfl
theorem nm_bool (b : Bool) : AC.norm (.bool b) = .bool b := rfl
theorem nm_str (b : ByteArray) : AC.norm (.str b) = .str b := rfl
theorem nm_l (v k : Nat) (xs : List (List AC)) : AC.norm (.list v k xs) = .list 0 k xs := rfl
theorem nm_ptr (p : Option (Nat × Nat)) : AC.norm (.ptr p) = .ptr p := rfl
theorem nm_eptr (cs : List AC) : AC.norm (.eptr cs) = .eptr cs := rfl
theorem nm_sl (a b c d q : Nat) : AC.norm (.sl a b c d q) = .sl a b c d q := rfl
theorem nm_fn (f : Nat) (cs : List AC) : AC.norm (.fn f cs) = .fn f cs := rfl
theorem nm_nilfn : AC.norm .nilfn = .nilfn := rfl
theorem nm_map (i : Nat) : AC.norm (.map i) = .map i := rfl
theorem norm_c (a : AC) : AV.norm (.c a) = .c a.norm := rfl
theorem norm_agg (cs : List AC) : AV.norm (.agg cs) = .agg (cs.map AC.norm) := rfl
theorem look_nil (t : Nat) : look [] t = none := rfl
theorem look_cons (s t : Nat) (v : AV) (r : List (Nat × AV)) : look ((s, v) :: r) t = if s = t then some v else look r t := rfl
theorem put_nil (t : Nat) (v : AV) : put [] t v = [(t, v)] := rfl
theorem put_cons (s t : Nat) (u v : AV) (r : List (Nat × AV)) : put ((s, u) :: r) t v = if t < s then (t, v) :: (s, u) :: r else if s = t then (t, v) :: r else (s, u) :: put r t v := rfl
theorem kill_nil (ts : List Nat) : kill [] ts = [] := rfl
theorem kill_none (r : List (Nat × AV)) : kill r [] = r := by simp [kill]
theorem kill_cons (s : Nat) (v : AV) (r : List (Nat × AV)) (ts : List Nat) : kill ((s, v) :: r) ts = if ts.contains s = true then kill r ts else (s, v) :: kill r ts := by
  cases h : ts.contains s <;> simp at h <;> simp [kill, List.filter_cons, h]
variable {k : IntKind} {a b : Int}
theorem b_int (op : BinOp) (k k' : IntKind) (a b : Int) : evBin op (.c (.int k a)) (.c (.int k' b)) = evInt op k k' a b := rfl
theorem b_str (op : BinOp) (a b : ByteArray) : evBin op (.c (.str a)) (.c (.str b)) = evStr op a b := rfl
theorem i_shl (k' : IntKind) (h : 0 ≤ b) : evInt .shl k k' a b = some (.c (.int k (k.wrap (a * 2 ^ min b.toNat k.bits)))) := by simp [evInt, h]
theorem i_shr (k' : IntKind) (h : 0 ≤ b) : evInt .shr k k' a b = some (.c (.int k (a / 2 ^ min b.toNat k.bits))) := by
  have : (0 : Int) ≤ 2 ^ min b.toNat k.bits := Int.le_of_lt (Int.pow_pos (by decide))
  simp [evInt, h, Int.fdiv_eq_ediv_of_nonneg _ this]
theorem bits_u64 : IntKind.u64.bits = 64 := rfl
theorem bits_i64 : IntKind.i64.bits = 64 := rfl
theorem bits_u32 : IntKind.u32.bits = 32 := rfl
theorem bits_i32 : IntKind.i32.bits = 32 := rfl
theorem bits_u8 : IntKind.u8.bits = 8 := rfl
theorem bits_u16 : IntKind.u16.bits = 16 := rfl
theorem i_add : evInt .add k k a b = some (.c (.int k (k.wrap (a + b)))) := by simp [evInt]
theorem i_sub : evInt .sub k k a b = some (.c (.int k (k.wrap (a - b)))) := by simp [evInt]
theorem i_mul : evInt .mul k k a b = some (.c (.int k (k.wrap (a * b)))) := by simp [evInt]
theorem i_quo (h : b ≠ 0) : evInt .quo k k a b = some (.c (.int k (k.wrap (a.tdiv b)))) := by simp [evInt, h]
theorem i_rem (h : b ≠ 0) : evInt .rem k k a b = some (.c (.int k (a.tmod b))) := by simp [evInt, h]
theorem i_and : evInt .and k k a b = some (.c (.int k (bits .and k a b))) := by simp [evInt, bits]
theorem i_or : evInt .or k k a b = some (.c (.int k (bits .or k a b))) := by simp [evInt, bits]
theorem i_xor : evInt .xor k k a b = some (.c (.int k (bits .xor k a b))) := by simp [evInt, bits]
theorem i_eql : evInt .eql k k a b = some (.c (.bool (decide (a = b)))) := by simp [evInt]; rfl
theorem i_neq : evInt .neq k k a b = some (.c (.bool (!decide (a = b)))) := by simp [evInt]; rfl
theorem i_lss : evInt .lss k k a b = some (.c (.bool (decide (a < b)))) := by simp [evInt]
theorem i_leq : evInt .leq k k a b = some (.c (.bool (decide (a ≤ b)))) := by simp [evInt]
theorem i_gtr : evInt .gtr k k a b = some (.c (.bool (decide (b < a)))) := by simp [evInt]
theorem i_geq : evInt .geq k k a b = some (.c (.bool (decide (b ≤ a)))) := by simp [evInt]
theorem str_iff (a b : ByteArray) : a.toList = b.toList ↔ a = b := by
  constructor
  · intro h
    cases a with | mk a => cases b with | mk b =>
    obtain ⟨a⟩ := a; obtain ⟨b⟩ := b
    have e : ∀ l : List UInt8, (⟨⟨l⟩⟩ : ByteArray).toList = l := fun l => by simp
    rw [e, e] at h; rw [h]
  · rintro rfl; rfl
theorem s_eql (a b : ByteArray) : evStr .eql a b = some (.c (.bool (decide (a = b)))) := by
  have : (a.toList == b.toList) = decide (a = b) := by
    rw [Bool.eq_iff_iff]; simp only [beq_iff_eq, decide_eq_true_eq, str_iff]
  simp only [evStr, this]
theorem s_neq (a b : ByteArray) : evStr .neq a b = some (.c (.bool (!decide (a = b)))) := by
  have : (a.toList == b.toList) = decide (a = b) := by
    rw [Bool.eq_iff_iff]; simp only [beq_iff_eq, decide_eq_true_eq, str_iff]
  simp only [evStr, this]
theorem s_add (a b : ByteArray) (h : ((a.size + b.size : Nat) : Int) ≤ 9223372036854775807) : evStr .add a b = some (.c (.str (a ++ b))) := by simp only [evStr, if_pos h]
theorem s_lss (a b : ByteArray) : evStr .lss a b = some (.c (.bool (Op.bytesLess a.toList b.toList))) := rfl
theorem s_leq (a b : ByteArray) : evStr .leq a b = some (.c (.bool (Op.bytesLess a.toList b.toList || a.toList == b.toList))) := rfl
theorem s_gtr (a b : ByteArray) : evStr .gtr a b = some (.c (.bool !(Op.bytesLess a.toList b.toList || a.toList == b.toList))) := rfl
theorem s_geq (a b : ByteArray) : evStr .geq a b = some (.c (.bool !(Op.bytesLess a.toList b.toList))) := rfl
theorem bb_eql (a b : Bool) : evBool .eql a b = some (.c (.bool (decide (a = b)))) := by cases a <;> cases b <;> rfl
theorem bb_neq (a b : Bool) : evBool .neq a b = some (.c (.bool (!decide (a = b)))) := by cases a <;> cases b <;> rfl
theorem ce_nil : cellsEq [] [] [] = some true := rfl
theorem ce_int (ks : List Nat) (k : IntKind) (a b : Int) (xs ys : List AC) : cellsEq (0 :: ks) (.int k a :: xs) (.int k b :: ys) = (cellsEq ks xs ys).map fun r => decide (a = b) && r := by
  simp only [cellsEq, if_true]; rfl
theorem ce_bool (ks : List Nat) (a b : Bool) (xs ys : List AC) : cellsEq (1 :: ks) (.bool a :: xs) (.bool b :: ys) = (cellsEq ks xs ys).map fun r => decide (a = b) && r := by
  simp only [cellsEq]; cases a <;> cases b <;> rfl
theorem ce_str (ks : List Nat) (a b : ByteArray) (xs ys : List AC) : cellsEq (2 :: ks) (.str a :: xs) (.str b :: ys) = (cellsEq ks xs ys).map fun r => decide (a = b) && r := by
  have : (a.toList == b.toList) = decide (a = b) := by
    rw [Bool.eq_iff_iff]; simp only [beq_iff_eq, decide_eq_true_eq, str_iff]
  simp only [cellsEq, this]
theorem evs_nil : State.evs σ [] = some [] := rfl
def evsC (v : Option AV) (vs : Option (List AV)) : Option (List AV) := match v, vs with
  | some v, some vs => some (v :: vs)
  | _, _ => none
theorem evs_cons (x : Opd) (xs : List Opd) : State.evs σ (x :: xs) = evsC (σ.ev x) (σ.evs xs) := rfl
theorem evsC_some (v : AV) (vs : List AV) : evsC (some v) (some vs) = some (v :: vs) := rfl

/-! The end. -/
theorem up_int (k : IntKind) (n : Int) : AV.up (.c (.int k n)) = .c (.int k n) := rfl
theorem up_bool (b : Bool) : AV.up (.c (.bool b)) = .c (.bool b) := rfl
theorem up_str (b : ByteArray) : AV.up (.c (.str b)) = .c (.str b) := rfl
theorem up_l0 (k : Nat) (xs : List (List AC)) : AV.up (.c (.list 0 k xs)) = .c (.list 0 k xs) := rfl
theorem up_l1 (k : Nat) (xs : List (List AC)) : AV.up (.c (.list 1 k xs)) = .c (.list 2 k xs) := rfl
theorem up_l2 (k : Nat) (xs : List (List AC)) : AV.up (.c (.list 2 k xs)) = .c (.list 2 k xs) := rfl
theorem up_agg (cs : List AC) : AV.up (.agg cs) = .agg cs := rfl
theorem fin_pure {rs : List RV} {r : AV} {x : AX} (hr : r.all AC.res = true) (h : State.res ⟨e, H⟩ 0 rs = some r) (hx : ∀ id, x ≠ .x id) : FinQ rs [] (fun u G => u = r ∧ G = []) x ⟨e, H⟩ :=
  .of ⟨hx, 0, by simp, by simp, by simp, .inr hr, .inl h, by simp⟩
/-- One result, with what is known of its capacity. -/
theorem fin_one {x : RV} {r : AV} {H0 : List Blk} {Q : AV → List Blk → Prop} {y : AX} (hQ : Q r H) (hl : H0.length ≤ H.length) (h : State.res1 ⟨e, H⟩ H.length x = some r) (hx : ∀ id, y ≠ .x id) (hb : ∀ (id : Nat) (b : Blk), H[id]? = some b → H0[id]? = some b ∨ b.Below H.length) : FinQ [x] H0 Q y ⟨e, H⟩ :=
  ⟨r, H, hQ, hx, H.length, by simp, hl, by simp, .inl rfl, .inr ⟨x, rfl, h⟩, hb⟩
/-- A result that is told as others read it. -/
theorem RunsQ.norm {f : Nat} {args : List AV} {Q : AV → List Blk → Prop} (h : RunsQ P f args H fun u G => Q u.norm G) : RunsQ P f args H Q :=
  ⟨h.1, fun w g vals h1 h2 h3 => (h.2 w g vals h1 h2 h3).mono fun e w' ⟨u, G, v, g', hq, q1, q2, q3, q4⟩ => ⟨u.norm, G, v, g', hq, q1, q2, q3.norm, q4⟩⟩
theorem nrm {f : Nat} {args : List AV} {H' : List Blk} {r : AV} (h : RunsQ P f args H fun u G => u.norm = r ∧ G = H') : RunsTo P f args H r H' :=
  RunsQ.to (RunsQ.norm (Q := fun u G => u = r ∧ G = H') h)
theorem fin_pureN {rs : List RV} {r : AV} {x : AX} (h : ∃ u, State.res ⟨e, H⟩ 0 rs = some u ∧ u.all AC.res = true ∧ u.norm = r) (hx : ∀ id, x ≠ .x id) : FinQ rs [] (fun u G => u.norm = r ∧ G = []) x ⟨e, H⟩ := by
  obtain ⟨u, h1, h2, h3⟩ := h
  exact ⟨u, [], ⟨h3, rfl⟩, hx, 0, by simp, by simp, by simp, .inr h2, .inl h1, by simp⟩
theorem fin_sameN {rs : List RV} {r : AV} {H0 X : List Blk} {x : AX} (h : ∃ u, State.res ⟨e, H0 ++ X⟩ H0.length rs = some u ∧ u.all AC.res = true ∧ u.norm = r) (hx : ∀ id, x ≠ .x id) : FinQ rs H0 (fun u G => u.norm = r ∧ G = H0) x ⟨e, H0 ++ X⟩ := by
  obtain ⟨u, h1, h2, h3⟩ := h
  exact ⟨u, H0, ⟨h3, rfl⟩, hx, H0.length, by simp, by simp, by simp, .inr h2, .inl h1, fun id b hb => .inl hb⟩
/-- The listed blocks are as they were. -/
theorem fin_same {rs : List RV} {r : AV} {H0 X : List Blk} {x : AX} (hr : r.all AC.res = true) (h : State.res ⟨e, H0 ++ X⟩ H0.length rs = some r) (hx : ∀ id, x ≠ .x id) : FinQ rs H0 (fun u G => u = r ∧ G = H0) x ⟨e, H0 ++ X⟩ :=
  .of ⟨hx, H0.length, by simp, by simp, by simp, .inr hr, .inl h, fun id b hb => .inl hb⟩
/-- Some of the listed blocks are other ones. -/
theorem fin_blocks {rs : List RV} {r : AV} {H0 H1 X : List Blk} {Q : AV → List Blk → Prop} {x : AX} (hQ : Q r H1) (hl : H1.length = H0.length) (hr : r.all AC.res = true) (h : State.res ⟨e, H1 ++ X⟩ H0.length rs = some r) (hx : ∀ id, x ≠ .x id) (hb : ∀ (id : Nat) (b : Blk), H1[id]? = some b → H0[id]? = some b ∨ b.Below H0.length) : FinQ rs H0 Q x ⟨e, H1 ++ X⟩ :=
  ⟨r, H1, hQ, hx, H0.length, by rw [← hl]; simp, by simp, by simp [hl], .inr hr, .inl h, hb⟩
theorem fin_all {rs : List RV} {r : AV} {H0 : List Blk} {Q : AV → List Blk → Prop} {x : AX} (hQ : Q r H) (hl : H0.length ≤ H.length) (h : State.res ⟨e, H⟩ H.length rs = some r) (hx : ∀ id, x ≠ .x id) (hb : ∀ (id : Nat) (b : Blk), H[id]? = some b → H0[id]? = some b ∨ b.Below H.length) : FinQ rs H0 Q x ⟨e, H⟩ :=
  ⟨r, H, hQ, hx, H.length, by simp, hl, by simp, .inl rfl, .inl h, hb⟩
theorem not_x_r (id : Nat) : AX.r ≠ .x id := by intro h; cases h
theorem not_x_n (id : Nat) : AX.n ≠ .x id := by intro h; cases h

/-! Whole numbers that a kind holds. -/
def Fits (k : IntKind) (n : Int) : Prop := k.wrap n = n
end
end Go.AI

set_option linter.unusedVariables false
set_option maxRecDepth 10000
namespace Go.AI
open Go Go.AI

/-! The rewriting lemmas, in one. -/
theorem zS : ((((((((type_of% @g_skip ∧ type_of% @g_exit) ∧ (type_of% @g_ret ∧ type_of% @g_seq)) ∧ ((type_of% @g_block ∧ type_of% @g_region) ∧ (type_of% @g_cond ∧ (type_of% @g_condT ∧ type_of% @g_condF)))) ∧ (((type_of% @seqK_n ∧ type_of% @seqK_x) ∧ (type_of% @seqK_r ∧ type_of% @blkK_n)) ∧ ((type_of% @blkK_r ∧ type_of% @blkK_x) ∧ (type_of% @g_regK ∧ (type_of% @lpK_n ∧ type_of% @lpK_x))))) ∧ ((((type_of% @lpK_r ∧ type_of% @g_opsK) ∧ (type_of% @g_nil ∧ type_of% @g_guard)) ∧ ((type_of% @g_ifTT ∧ type_of% @g_ifFF) ∧ (type_of% @g_ifTF ∧ (type_of% @g_ifFT ∧ type_of% @g_ifUT)))) ∧ (((type_of% @g_put ∧ type_of% @g_run) ∧ (type_of% @g_mov ∧ type_of% @g_pick)) ∧ ((type_of% @g_bin ∧ type_of% @g_binb) ∧ (type_of% @g_eqa ∧ (type_of% @g_not ∧ type_of% @g_neg)))))) ∧ (((((type_of% @g_toInt ∧ type_of% @g_s2s) ∧ (type_of% @g_b2s ∧ type_of% @g_load)) ∧ ((type_of% @g_faddr ∧ type_of% @g_field) ∧ (type_of% @g_iaddr ∧ (type_of% @g_aaddr ∧ type_of% @g_sidx)))) ∧ (((type_of% @g_aidx ∧ type_of% @g_extract) ∧ (type_of% @g_slen ∧ type_of% @g_len)) ∧ ((type_of% @g_mx ∧ type_of% @g_mn) ∧ (type_of% @g_sstr ∧ (type_of% @g_slst ∧ type_of% @g_s2a))))) ∧ ((((type_of% @g_mkfn ∧ type_of% @g_build) ∧ (type_of% @g_alloc ∧ type_of% @g_movT)) ∧ ((type_of% @p_movT ∧ type_of% @g_box) ∧ (type_of% @g_bsl ∧ (type_of% @g_s2b ∧ type_of% @g_loadT)))) ∧ (((type_of% @g_store ∧ type_of% @g_append) ∧ (type_of% @g_appA ∧ (type_of% @g_frz ∧ type_of% @g_call))) ∧ ((type_of% @g_callq ∧ type_of% @g_callx) ∧ (type_of% @g_arr ∧ (type_of% @g_storeX ∧ type_of% @g_ghost))))))) ∧ ((((((type_of% @ghK_some ∧ type_of% @bslv_0) ∧ (type_of% @bslv_1 ∧ type_of% @bslv_2)) ∧ ((type_of% @bslv_3 ∧ type_of% @bslv_4) ∧ (type_of% @g_apart ∧ (type_of% @blk_ptr ∧ type_of% @blk_aptr)))) ∧ (((type_of% @blk_int ∧ type_of% @blk_eptr) ∧ (type_of% @blk_tup ∧ type_of% @apA_nil)) ∧ ((type_of% @apA_cons ∧ type_of% @apC_some) ∧ (type_of% @apC_none ∧ (type_of% @nbind ∧ type_of% @del_some))))) ∧ ((((type_of% @del_none ∧ type_of% @g_condN) ∧ (type_of% @g_ifNT ∧ type_of% @g_ifNF)) ∧ ((type_of% @g_regionT ∧ type_of% @g_goTK) ∧ (type_of% @g_Tnil ∧ (type_of% @g_Top ∧ type_of% @g_Tboth)))) ∧ (((type_of% @g_callN ∧ type_of% @g_srt) ∧ (type_of% @bneTF ∧ type_of% @bneFT)) ∧ ((type_of% @bneTT ∧ type_of% @bneFF) ∧ (type_of% @g_asl ∧ (type_of% @srt_nil ∧ type_of% @srt_one)))))) ∧ (((((type_of% @srt_cons ∧ type_of% @ev_t) ∧ (type_of% @ev_c ∧ type_of% @raw_t)) ∧ ((type_of% @raw_c ∧ type_of% @take_c) ∧ (type_of% @take_t ∧ (type_of% @take_some ∧ type_of% @share_int)))) ∧ (((type_of% @share_bool ∧ type_of% @share_str) ∧ (type_of% @share_l0 ∧ type_of% @share_l1)) ∧ ((type_of% @share_l2 ∧ type_of% @share_ptr) ∧ (type_of% @share_eptr ∧ (type_of% @share_sl ∧ type_of% @share_aptr))))) ∧ ((((type_of% @share_fn ∧ type_of% @share_nilfn) ∧ (type_of% @share_map ∧ type_of% @share_agg)) ∧ ((type_of% @share_tup ∧ type_of% @shareE_c) ∧ (type_of% @shareE_agg ∧ (type_of% @sh_int ∧ type_of% @sh_bool)))) ∧ (((type_of% @sh_str ∧ type_of% @sh_l0) ∧ (type_of% @sh_l1 ∧ (type_of% @sh_l2 ∧ type_of% @sh_ptr))) ∧ ((type_of% @sh_eptr ∧ type_of% @sh_sl) ∧ (type_of% @sh_aptr ∧ (type_of% @setD_mk ∧ type_of% @setD_no)))))))) ∧ (((((((type_of% @sh_fn ∧ type_of% @sh_nilfn) ∧ (type_of% @sh_map ∧ type_of% @nm_int)) ∧ ((type_of% @nm_bool ∧ type_of% @nm_str) ∧ (type_of% @nm_l ∧ (type_of% @nm_ptr ∧ type_of% @nm_eptr)))) ∧ (((type_of% @nm_sl ∧ type_of% @nm_fn) ∧ (type_of% @nm_nilfn ∧ type_of% @nm_map)) ∧ ((type_of% @norm_c ∧ type_of% @norm_agg) ∧ (type_of% @look_nil ∧ (type_of% @look_cons ∧ type_of% @put_nil))))) ∧ ((((type_of% @put_cons ∧ type_of% @kill_nil) ∧ (type_of% @kill_none ∧ type_of% @kill_cons)) ∧ ((type_of% @b_int ∧ type_of% @b_str) ∧ (type_of% @i_shl ∧ (type_of% @i_shr ∧ type_of% @i_add)))) ∧ (((type_of% @i_sub ∧ type_of% @i_mul) ∧ (type_of% @i_quo ∧ type_of% @i_rem)) ∧ ((type_of% @i_and ∧ type_of% @i_or) ∧ (type_of% @i_xor ∧ (type_of% @i_eql ∧ type_of% @i_neq)))))) ∧ (((((type_of% @i_lss ∧ type_of% @i_leq) ∧ (type_of% @i_gtr ∧ type_of% @i_geq)) ∧ ((type_of% @s_eql ∧ type_of% @s_neq) ∧ (type_of% @s_add ∧ (type_of% @s_lss ∧ type_of% @s_leq)))) ∧ (((type_of% @s_gtr ∧ type_of% @s_geq) ∧ (type_of% @bb_eql ∧ type_of% @bb_neq)) ∧ ((type_of% @ce_nil ∧ type_of% @ce_int) ∧ (type_of% @ce_bool ∧ (type_of% @ce_str ∧ type_of% @bits_u64))))) ∧ ((((type_of% @bits_i64 ∧ type_of% @bits_u32) ∧ (type_of% @bits_i32 ∧ type_of% @bits_u8)) ∧ ((type_of% @bits_u16 ∧ type_of% @Nat.min_def) ∧ (type_of% @evs_nil ∧ (type_of% @evs_cons ∧ type_of% @evsC_some)))) ∧ (((type_of% @up_int ∧ type_of% @up_bool) ∧ (type_of% @up_str ∧ (type_of% @up_l0 ∧ type_of% @up_l1))) ∧ ((type_of% @up_l2 ∧ type_of% @up_agg) ∧ (type_of% @Option.bind_some.{0,0} ∧ (type_of% @heap_last ∧ type_of% @set_last))))))) ∧ ((((((type_of% @heap_b1 ∧ type_of% @heap_b2) ∧ (type_of% @heap_b3 ∧ type_of% @set_b1)) ∧ ((type_of% @set_b2 ∧ type_of% @cells_agg) ∧ (type_of% @cells_c ∧ (type_of% @chunk_0 ∧ type_of% @chunk_1)))) ∧ (((type_of% @chunk_2 ∧ type_of% @chunk_3) ∧ (type_of% @Nat.mul_one ∧ type_of% @Nat.one_mul)) ∧ ((type_of% @Option.map_some.{0,0} ∧ type_of% @Option.map_none.{0,0}) ∧ (type_of% @List.contains_cons.{0} ∧ (type_of% @List.contains_nil.{0} ∧ type_of% @Bool.or_false))))) ∧ ((((type_of% @Bool.false_or ∧ type_of% @Bool.or_true) ∧ (type_of% @Bool.true_or ∧ type_of% @Bool.and_true)) ∧ ((type_of% @Bool.true_and ∧ type_of% @Bool.not_true) ∧ (type_of% @Bool.not_false ∧ (type_of% @Bool.false_eq_true ∧ type_of% @beq_self_eq_true.{0})))) ∧ (((type_of% @bne_self_eq_false.{0} ∧ type_of% @List.map_cons.{0,0}) ∧ (type_of% @List.map_nil.{0,0} ∧ type_of% @List.set_cons_zero.{0})) ∧ ((type_of% @List.set_cons_succ.{0} ∧ type_of% @List.length_cons.{0}) ∧ (type_of% @List.length_nil.{0} ∧ (type_of% @List.all_cons.{0} ∧ type_of% @List.all_nil.{0})))))) ∧ (((((type_of% @List.take_succ_cons.{0} ∧ type_of% @List.take_zero.{0}) ∧ (type_of% @List.drop_succ_cons.{0} ∧ type_of% @List.drop_zero.{0})) ∧ ((type_of% @List.take_nil.{0} ∧ type_of% @List.drop_nil.{0}) ∧ (type_of% @List.nil_append.{0} ∧ (type_of% @List.cons_append.{0} ∧ type_of% @List.append_nil.{0})))) ∧ (((type_of% @List.getElem?_cons_zero.{0} ∧ type_of% @List.getElem?_cons_succ.{0}) ∧ (type_of% @true_and ∧ type_of% @and_true)) ∧ ((type_of% @and_self ∧ type_of% @not_false_eq_true) ∧ (type_of% @not_true_eq_false ∧ (type_of% @if_true.{1} ∧ type_of% @if_false.{1}))))) ∧ ((((type_of% @Int.lt_irrefl ∧ type_of% @Nat.lt_irrefl) ∧ (type_of% @Int.le_refl ∧ type_of% @Nat.le_refl)) ∧ ((type_of% @Int.toNat_natCast ∧ type_of% @Int.natCast_nonneg) ∧ (type_of% @Nat.zero_add ∧ (type_of% @Nat.add_zero ∧ type_of% @Nat.sub_zero)))) ∧ (((type_of% @and_false ∧ type_of% @false_and) ∧ (type_of% @IntWalk.i64_in ∧ (type_of% @IntWalk.u64_in ∧ type_of% @IntWalk.u8_in))) ∧ ((type_of% @IntWalk.u32_in ∧ type_of% @IntWalk.i32_in) ∧ (type_of% @decide_eq_true_eq ∧ (type_of% @decide_true ∧ type_of% @decide_false))))))))) := ⟨⟨⟨⟨⟨⟨⟨⟨@g_skip, @g_exit⟩, ⟨@g_ret, @g_seq⟩⟩, ⟨⟨@g_block, @g_region⟩, ⟨@g_cond, ⟨@g_condT, @g_condF⟩⟩⟩⟩, ⟨⟨⟨@seqK_n, @seqK_x⟩, ⟨@seqK_r, @blkK_n⟩⟩, ⟨⟨@blkK_r, @blkK_x⟩, ⟨@g_regK, ⟨@lpK_n, @lpK_x⟩⟩⟩⟩⟩, ⟨⟨⟨⟨@lpK_r, @g_opsK⟩, ⟨@g_nil, @g_guard⟩⟩, ⟨⟨@g_ifTT, @g_ifFF⟩, ⟨@g_ifTF, ⟨@g_ifFT, @g_ifUT⟩⟩⟩⟩, ⟨⟨⟨@g_put, @g_run⟩, ⟨@g_mov, @g_pick⟩⟩, ⟨⟨@g_bin, @g_binb⟩, ⟨@g_eqa, ⟨@g_not, @g_neg⟩⟩⟩⟩⟩⟩, ⟨⟨⟨⟨⟨@g_toInt, @g_s2s⟩, ⟨@g_b2s, @g_load⟩⟩, ⟨⟨@g_faddr, @g_field⟩, ⟨@g_iaddr, ⟨@g_aaddr, @g_sidx⟩⟩⟩⟩, ⟨⟨⟨@g_aidx, @g_extract⟩, ⟨@g_slen, @g_len⟩⟩, ⟨⟨@g_mx, @g_mn⟩, ⟨@g_sstr, ⟨@g_slst, @g_s2a⟩⟩⟩⟩⟩, ⟨⟨⟨⟨@g_mkfn, @g_build⟩, ⟨@g_alloc, @g_movT⟩⟩, ⟨⟨@p_movT, @g_box⟩, ⟨@g_bsl, ⟨@g_s2b, @g_loadT⟩⟩⟩⟩, ⟨⟨⟨@g_store, @g_append⟩, ⟨@g_appA, ⟨@g_frz, @g_call⟩⟩⟩, ⟨⟨@g_callq, @g_callx⟩, ⟨@g_arr, ⟨@g_storeX, @g_ghost⟩⟩⟩⟩⟩⟩⟩, ⟨⟨⟨⟨⟨⟨@ghK_some, @bslv_0⟩, ⟨@bslv_1, @bslv_2⟩⟩, ⟨⟨@bslv_3, @bslv_4⟩, ⟨@g_apart, ⟨@blk_ptr, @blk_aptr⟩⟩⟩⟩, ⟨⟨⟨@blk_int, @blk_eptr⟩, ⟨@blk_tup, @apA_nil⟩⟩, ⟨⟨@apA_cons, @apC_some⟩, ⟨@apC_none, ⟨@nbind, @del_some⟩⟩⟩⟩⟩, ⟨⟨⟨⟨@del_none, @g_condN⟩, ⟨@g_ifNT, @g_ifNF⟩⟩, ⟨⟨@g_regionT, @g_goTK⟩, ⟨@g_Tnil, ⟨@g_Top, @g_Tboth⟩⟩⟩⟩, ⟨⟨⟨@g_callN, @g_srt⟩, ⟨@bneTF, @bneFT⟩⟩, ⟨⟨@bneTT, @bneFF⟩, ⟨@g_asl, ⟨@srt_nil, @srt_one⟩⟩⟩⟩⟩⟩, ⟨⟨⟨⟨⟨@srt_cons, @ev_t⟩, ⟨@ev_c, @raw_t⟩⟩, ⟨⟨@raw_c, @take_c⟩, ⟨@take_t, ⟨@take_some, @share_int⟩⟩⟩⟩, ⟨⟨⟨@share_bool, @share_str⟩, ⟨@share_l0, @share_l1⟩⟩, ⟨⟨@share_l2, @share_ptr⟩, ⟨@share_eptr, ⟨@share_sl, @share_aptr⟩⟩⟩⟩⟩, ⟨⟨⟨⟨@share_fn, @share_nilfn⟩, ⟨@share_map, @share_agg⟩⟩, ⟨⟨@share_tup, @shareE_c⟩, ⟨@shareE_agg, ⟨@sh_int, @sh_bool⟩⟩⟩⟩, ⟨⟨⟨@sh_str, @sh_l0⟩, ⟨@sh_l1, ⟨@sh_l2, @sh_ptr⟩⟩⟩, ⟨⟨@sh_eptr, @sh_sl⟩, ⟨@sh_aptr, ⟨@setD_mk, @setD_no⟩⟩⟩⟩⟩⟩⟩⟩, ⟨⟨⟨⟨⟨⟨⟨@sh_fn, @sh_nilfn⟩, ⟨@sh_map, @nm_int⟩⟩, ⟨⟨@nm_bool, @nm_str⟩, ⟨@nm_l, ⟨@nm_ptr, @nm_eptr⟩⟩⟩⟩, ⟨⟨⟨@nm_sl, @nm_fn⟩, ⟨@nm_nilfn, @nm_map⟩⟩, ⟨⟨@norm_c, @norm_agg⟩, ⟨@look_nil, ⟨@look_cons, @put_nil⟩⟩⟩⟩⟩, ⟨⟨⟨⟨@put_cons, @kill_nil⟩, ⟨@kill_none, @kill_cons⟩⟩, ⟨⟨@b_int, @b_str⟩, ⟨@i_shl, ⟨@i_shr, @i_add⟩⟩⟩⟩, ⟨⟨⟨@i_sub, @i_mul⟩, ⟨@i_quo, @i_rem⟩⟩, ⟨⟨@i_and, @i_or⟩, ⟨@i_xor, ⟨@i_eql, @i_neq⟩⟩⟩⟩⟩⟩, ⟨⟨⟨⟨⟨@i_lss, @i_leq⟩, ⟨@i_gtr, @i_geq⟩⟩, ⟨⟨@s_eql, @s_neq⟩, ⟨@s_add, ⟨@s_lss, @s_leq⟩⟩⟩⟩, ⟨⟨⟨@s_gtr, @s_geq⟩, ⟨@bb_eql, @bb_neq⟩⟩, ⟨⟨@ce_nil, @ce_int⟩, ⟨@ce_bool, ⟨@ce_str, @bits_u64⟩⟩⟩⟩⟩, ⟨⟨⟨⟨@bits_i64, @bits_u32⟩, ⟨@bits_i32, @bits_u8⟩⟩, ⟨⟨@bits_u16, @Nat.min_def⟩, ⟨@evs_nil, ⟨@evs_cons, @evsC_some⟩⟩⟩⟩, ⟨⟨⟨@up_int, @up_bool⟩, ⟨@up_str, ⟨@up_l0, @up_l1⟩⟩⟩, ⟨⟨@up_l2, @up_agg⟩, ⟨@Option.bind_some.{0,0}, ⟨@heap_last, @set_last⟩⟩⟩⟩⟩⟩⟩, ⟨⟨⟨⟨⟨⟨@heap_b1, @heap_b2⟩, ⟨@heap_b3, @set_b1⟩⟩, ⟨⟨@set_b2, @cells_agg⟩, ⟨@cells_c, ⟨@chunk_0, @chunk_1⟩⟩⟩⟩, ⟨⟨⟨@chunk_2, @chunk_3⟩, ⟨@Nat.mul_one, @Nat.one_mul⟩⟩, ⟨⟨@Option.map_some.{0,0}, @Option.map_none.{0,0}⟩, ⟨@List.contains_cons.{0}, ⟨@List.contains_nil.{0}, @Bool.or_false⟩⟩⟩⟩⟩, ⟨⟨⟨⟨@Bool.false_or, @Bool.or_true⟩, ⟨@Bool.true_or, @Bool.and_true⟩⟩, ⟨⟨@Bool.true_and, @Bool.not_true⟩, ⟨@Bool.not_false, ⟨@Bool.false_eq_true, @beq_self_eq_true.{0}⟩⟩⟩⟩, ⟨⟨⟨@bne_self_eq_false.{0}, @List.map_cons.{0,0}⟩, ⟨@List.map_nil.{0,0}, @List.set_cons_zero.{0}⟩⟩, ⟨⟨@List.set_cons_succ.{0}, @List.length_cons.{0}⟩, ⟨@List.length_nil.{0}, ⟨@List.all_cons.{0}, @List.all_nil.{0}⟩⟩⟩⟩⟩⟩, ⟨⟨⟨⟨⟨@List.take_succ_cons.{0}, @List.take_zero.{0}⟩, ⟨@List.drop_succ_cons.{0}, @List.drop_zero.{0}⟩⟩, ⟨⟨@List.take_nil.{0}, @List.drop_nil.{0}⟩, ⟨@List.nil_append.{0}, ⟨@List.cons_append.{0}, @List.append_nil.{0}⟩⟩⟩⟩, ⟨⟨⟨@List.getElem?_cons_zero.{0}, @List.getElem?_cons_succ.{0}⟩, ⟨@true_and, @and_true⟩⟩, ⟨⟨@and_self, @not_false_eq_true⟩, ⟨@not_true_eq_false, ⟨@if_true.{1}, @if_false.{1}⟩⟩⟩⟩⟩, ⟨⟨⟨⟨@Int.lt_irrefl, @Nat.lt_irrefl⟩, ⟨@Int.le_refl, @Nat.le_refl⟩⟩, ⟨⟨@Int.toNat_natCast, @Int.natCast_nonneg⟩, ⟨@Nat.zero_add, ⟨@Nat.add_zero, @Nat.sub_zero⟩⟩⟩⟩, ⟨⟨⟨@and_false, @false_and⟩, ⟨@IntWalk.i64_in, ⟨@IntWalk.u64_in, @IntWalk.u8_in⟩⟩⟩, ⟨⟨@IntWalk.u32_in, @IntWalk.i32_in⟩, ⟨@decide_eq_true_eq, ⟨@decide_true, @decide_false⟩⟩⟩⟩⟩⟩⟩⟩⟩
end Go.AI

set_option linter.unusedVariables false
set_option linter.unusedSimpArgs false
namespace Go.Proofs.Ytimapebigcmbmaa
open Go Go.AI Go.Proofs

/-! ### What comes in: its cells, by its type -/
def Fit (P : Program) : Nat → TypeId → List AC → Prop
  | 0, _, _ => False
  | n + 1, t, cs => match P.underlying t with
    | some .bool => ∃ b, cs = [.bool b]
    | some (.int k) => ∃ m, cs = [.int k m] ∧ (Lit.int k m).wf = true
    | some .string => ∃ s : ByteArray, cs = [.str s] ∧ s.size ≤ reachBytes
    | some (.slice e) => ∃ xs, cs = [.list 0 (P.cellsOf e) xs] ∧ xs.length ≤ reachBytes ∧ ∀ x ∈ xs, Fit P n e x ∧ x.length = P.cellsOf e
    | some (.struct fs) => ∃ parts : List (List AC), cs = parts.flatten ∧ parts.length = fs.size ∧ ∀ (i : Nat) (f : Field) (p : List AC), fs.toList[i]? = some f → parts[i]? = some p → Fit P n f.type p ∧ p.length = P.cellsOf f.type
    | some (.array k e) => ∃ parts : List (List AC), cs = parts.flatten ∧ parts.length = k ∧ ∀ p ∈ parts, Fit P n e p ∧ p.length = P.cellsOf e
    | _ => False
mutual
def bulkC : AC → Nat
  | .str s => s.size + 1
  | .list _ _ xs => bulkX xs + 1
  | _ => 1
def bulkL : List AC → Nat
  | [] => 0
  | a :: r => bulkC a + bulkL r
def bulkX : List (List AC) → Nat
  | [] => 0
  | a :: r => bulkL a + bulkX r
end
theorem bulkL_app (a b : List AC) : bulkL (a ++ b) = bulkL a + bulkL b := by
  induction a with
  | nil => simp [bulkL]
  | cons x a ih => simp only [List.cons_append, bulkL, ih]; omega
theorem bulkL_flat (l : List (List AC)) : bulkL l.flatten = bulkX l := by
  induction l with
  | nil => rfl
  | cons x l ih => simp only [List.flatten_cons, bulkL_app, bulkX, ih]

def tilesB (P : Program) : Nat → List Field → Nat → Bool
  | off, [], tot => off == tot
  | off, f :: fs, tot => f.offset == off && tilesB P (off + P.cellsOf f.type) fs tot
def simpleB (P : Program) : Nat → TypeId → Bool
  | 0, _ => false
  | n + 1, t => match P.underlying t with
    | some .bool | some (.int _) | some .string => true
    | some (.slice e) => decide (0 < P.cellsOf e) && decide (0 < P.bytesOf e) && simpleB P n e
    | some (.struct fs) => tilesB P 0 fs.toList (P.cellsOf t) && fs.toList.all fun f => simpleB P n f.type
    | some (.array k e) => P.cellsOf t == k * P.cellsOf e && simpleB P n e
    | _ => false
def Lof (w : World) (b : Nat) : Nat := match w.heap[b]? with
  | some (.cells c _ _) => c.size
  | _ => 0
theorem Lof_lt {w : World} {b o : Nat} {v : Value} (h : w.cell? ⟨b, o, none⟩ = some v) : o < Lof w b := by
  unfold World.cell? at h
  unfold Lof
  cases hb : w.heap[b]? with
  | none => simp [hb] at h
  | some x =>
    cases x with
    | cells c t f =>
      simp [hb] at h
      exact (Array.getElem?_eq_some_iff.1 h).1
    | _ => simp [hb] at h

/-- Cells that stand for values. -/
def Rel (w : World) (acs : List AC) (cs : List Value) : Prop := acs.length = cs.length ∧ ∀ (j : Nat) (a : AC) (v : Value), acs[j]? = some a → cs[j]? = some v → CRel w (Lof w) a v
theorem Rel.app {w : World} {acs bs : List AC} {cs ds : List Value} (h : Rel w acs cs) (k : Rel w bs ds) : Rel w (acs ++ bs) (cs ++ ds) := by
  refine ⟨by simp [h.1, k.1], fun j a v ha hv => ?_⟩
  by_cases hj : j < acs.length
  · rw [List.getElem?_append_left hj] at ha
    rw [List.getElem?_append_left (by rw [← h.1]; exact hj)] at hv
    exact h.2 j a v ha hv
  · rw [List.getElem?_append_right (by omega)] at ha
    rw [List.getElem?_append_right (by rw [← h.1]; omega), ← h.1] at hv
    exact k.2 _ a v ha hv
theorem Rel.one {w : World} {a : AC} {v : Value} (h : CRel w (Lof w) a v) : Rel w [a] [v] := by
  refine ⟨rfl, fun j a' v' ha hv => ?_⟩
  cases j with
  | zero => simp at ha hv; subst ha; subst hv; exact h
  | succ j => simp at ha

section
variable {H : Type} {enc : TypeId × Value → H} {P : Program} {W : World} {sp : Nat → Bool}
/-- What is shown of one value. -/
def Got (enc : TypeId × Value → H) (P : Program) (W : World) (m : Nat) (t : TypeId) (cs : List Value) (d : DataW H) : Prop :=
  ∃ acs, Fit P m t acs ∧ Rel W acs cs ∧ bulkL acs ≤ Rows.uptoBulk d
theorem bulk_append (l r : List (DataW H)) : Rows.uptoBulkAll (l ++ r) = Rows.uptoBulkAll l + Rows.uptoBulkAll r := by
  induction l with
  | nil => simp [Rows.uptoBulkAll]
  | cons x l ih => simp only [List.cons_append, Rows.uptoBulkAll, ih]; omega
theorem weightsAll_mem {e : TypeId} {l : List (DataW H)} {d : DataW H} (hd : d ∈ l) : ∀ n ∈ d.weights P e, n ∈ DataW.weightsAll P e l := by
  induction l with
  | nil => cases hd
  | cons x l ih =>
    intro n hn
    simp only [DataW.weightsAll, List.mem_append]
    rcases List.mem_cons.1 hd with h | h
    · subst h; exact .inl hn
    · exact .inr (ih h n hn)
/-- Fields, one behind the other. -/
theorem fields_got {m n : Nat} (hsz : ∀ t cs x, DataW.trod enc P W 0 sp true n t cs = some x → simpleB P m t = true → (∀ k ∈ x.1.weights P t, k ≤ reachBytes) → Got enc P W m t cs x.1) :
    ∀ (fs : List Field) (off tot : Nat) (cs : List Value) (xs : List (DataW H × List MemPlace)), cs.length = tot → tilesB P off fs tot = true → (fs.all fun f => simpleB P m f.type) = true →
      (fs.mapM fun f => DataW.trod enc P W 0 sp true n f.type ((cs.drop f.offset).take (P.cellsOf f.type))) = some xs → (∀ k ∈ DataW.weightsEach P (fs.map (·.type)) (xs.map (·.1)), k ≤ reachBytes) →
      off ≤ tot ∧ ∃ parts : List (List AC), parts.length = fs.length ∧ (∀ (i : Nat) (f : Field) (p : List AC), fs[i]? = some f → parts[i]? = some p → Fit P m f.type p ∧ p.length = P.cellsOf f.type) ∧ Rel W parts.flatten (cs.drop off) ∧ bulkX parts ≤ Rows.uptoBulkAll (xs.map (·.1)) := by
  intro fs
  induction fs with
  | nil =>
    intro off tot cs xs hl ht _ hm _
    simp at hm; subst hm
    have : off = tot := by simpa [tilesB] using ht
    refine ⟨by omega, [], rfl, fun i f p h => by simp at h, ⟨by simp; omega, fun j a v ha => by simp at ha⟩, by simp [bulkX]⟩
  | cons f fs ih =>
    intro off tot cs xs hl ht hs hm hw
    simp only [tilesB, Bool.and_eq_true, beq_iff_eq] at ht
    obtain ⟨hof, ht⟩ := ht
    simp only [List.all_cons, Bool.and_eq_true] at hs
    simp only [List.mapM_cons, Option.pure_def, Option.bind_eq_bind, Option.bind_eq_some_iff] at hm
    obtain ⟨x, hx, ys, hys, e⟩ := hm
    obtain rfl := Option.some.inj e
    simp only [List.map_cons, DataW.weightsEach, List.mem_append] at hw
    obtain ⟨hle, parts, h1, h2, h3, h4⟩ := ih _ tot cs ys hl ht hs.2 hys (fun k hk => hw k (.inr hk))
    obtain ⟨acs, g1, g2, g3⟩ := hsz _ _ _ hx hs.1 (fun k hk => hw k (.inl hk))
    have hlen : acs.length = P.cellsOf f.type := by rw [g2.1]; simp; omega
    refine ⟨by omega, acs :: parts, by simp [h1], fun i f' p hf hp => ?_, ?_, by simp only [bulkX, List.map_cons, Rows.uptoBulkAll]; omega⟩
    · cases i with
      | zero => simp at hf hp; subst hf; subst hp; exact ⟨g1, hlen⟩
      | succ i => simp at hf hp; exact h2 i f' p hf hp
    · rw [List.flatten_cons]
      have e2 : cs.drop off = (cs.drop off).take (P.cellsOf f.type) ++ cs.drop (off + P.cellsOf f.type) := by
        rw [← List.drop_drop, List.take_append_drop]
      rw [e2]
      rw [hof] at g2
      exact g2.app h3
/-- Elements, one behind the other. -/
theorem elems_got {m n : Nat} {e : TypeId} (hsz : ∀ cs x, DataW.trod enc P W 0 sp true n e cs = some x → (∀ k ∈ x.1.weights P e, k ≤ reachBytes) → Got enc P W m e cs x.1) (at_ : Nat → Option (List Value)) (hat : ∀ i cs, at_ i = some cs → cs.length = P.cellsOf e) :
    ∀ (l : List Nat) (xs : List (DataW H × List MemPlace)), (l.mapM fun i => (at_ i).bind (DataW.trod enc P W 0 sp true n e)) = some xs → (∀ k ∈ DataW.weightsAll P e (xs.map (·.1)), k ≤ reachBytes) →
      ∃ parts : List (List AC), parts.length = l.length ∧ (∀ p ∈ parts, Fit P m e p ∧ p.length = P.cellsOf e) ∧ (∀ (i j : Nat) (p : List AC), l[i]? = some j → parts[i]? = some p → ∃ cs, at_ j = some cs ∧ Rel W p cs) ∧ bulkX parts ≤ Rows.uptoBulkAll (xs.map (·.1)) := by
  intro l
  induction l with
  | nil =>
    intro xs hm _
    simp at hm; subst hm
    exact ⟨[], rfl, by simp, by simp, by simp [bulkX]⟩
  | cons i l ih =>
    intro xs hm hw
    simp only [List.mapM_cons, Option.pure_def, Option.bind_eq_bind, Option.bind_eq_some_iff] at hm ih
    obtain ⟨x, ⟨cs, hcs, hx⟩, ys, hys, eq⟩ := hm
    obtain rfl := Option.some.inj eq
    simp only [List.map_cons, DataW.weightsAll, List.mem_append] at hw
    obtain ⟨parts, h1, h2, h3, h4⟩ := ih ys hys (fun k hk => hw k (.inr hk))
    obtain ⟨acs, g1, g2, g3⟩ := hsz _ _ hx (fun k hk => hw k (.inl hk))
    refine ⟨acs :: parts, by simp [h1], fun p hp => ?_, fun i' j p hi hp => ?_, by simp only [bulkX, List.map_cons, Rows.uptoBulkAll]; omega⟩
    · rcases List.mem_cons.1 hp with h | h
      · subst h; exact ⟨g1, by rw [g2.1]; exact hat _ _ hcs⟩
      · exact h2 p h
    · cases i' with
      | zero => simp at hi hp; subst hi; subst hp; exact ⟨cs, hcs, g2⟩
      | succ i' => simp at hi hp; exact h3 i' j p hi hp
end
end Go.Proofs.Ytimapebigcmbmaa

set_option linter.unusedVariables false
set_option linter.unusedSimpArgs false
namespace Go.Proofs.Ytimapebigcmbmaa
open Go Go.AI Go.Proofs

section
variable {H : Type} {enc : TypeId × Value → H} {P : Program} {W : World} {sp : Nat → Bool}
theorem addr_add (b o n : Nat) : (⟨b, o, none⟩ : Addr).add n = ⟨b, o + n, none⟩ := by
  unfold Addr.add
  split
  · rename_i h; subst h; rfl
  · rfl
theorem got_list {m : Nat} {e : TypeId} {a : Addr} {len cap : Nat} (hpos : 0 < P.cellsOf e) {parts : List (List AC)} (h1 : parts.length = len) (h2 : ∀ p ∈ parts, Fit P m e p ∧ p.length = P.cellsOf e) (hcap : len ≤ cap)
    (h3 : ∀ (i j : Nat) (p : List AC), (List.range len)[i]? = some j → parts[i]? = some p → ∃ cs, W.cells? 0 (a.add (j * P.cellsOf e)) (P.cellsOf e) = some cs ∧ Rel W p cs) :
    CRel W (Lof W) (.list 0 (P.cellsOf e) parts) (.slice (some a) len cap) := by
  by_cases h0 : len = 0
  · subst h0
    obtain rfl : parts = [] := List.eq_nil_of_length_eq_zero h1
    exact .nil _ _ _ _ (by omega) (by omega)
  · have cell : ∀ i j, i < len → j < P.cellsOf e → ∃ p c v, parts[i]? = some p ∧ p[j]? = some c ∧ W.cell? ((a.add (i * P.cellsOf e)).add j) = some v ∧ CRel W (Lof W) c v := fun i j hi hj => by
      obtain ⟨p, hp⟩ : ∃ p, parts[i]? = some p := ⟨parts[i]'(by omega), List.getElem?_eq_getElem _⟩
      obtain ⟨cs, hcs, hr⟩ := h3 i i p (by simp [hi]) hp
      obtain ⟨_, hl, hc⟩ := World.cells?_some hcs
      have hpl := (h2 p (List.mem_of_getElem? hp)).2
      obtain ⟨c, hcj⟩ : ∃ c, p[j]? = some c := ⟨p[j]'(by omega), List.getElem?_eq_getElem _⟩
      obtain ⟨v, hv⟩ : ∃ v, cs[j]? = some v := ⟨cs[j]'(by omega), List.getElem?_eq_getElem _⟩
      exact ⟨p, c, v, hp, hcj, by rw [hc j hj, hv], hr.2 j c v hcj hv⟩
    obtain ⟨p0, c0, v0, _, _, hv0, _⟩ := cell 0 0 (by omega) hpos
    have hspot : a.spot = none := by
      have := World.cell?_spot hv0
      simpa [Addr.add] using this
    obtain ⟨ab, ao, as_⟩ := a
    simp only at hspot
    subst hspot
    have cell2 : ∀ i, i < len * P.cellsOf e → ∃ v, W.cell? ⟨ab, ao + i, none⟩ = some v := fun i hi => by
      have hq : i / P.cellsOf e < len := by rw [Nat.div_lt_iff_lt_mul hpos]; exact hi
      obtain ⟨_, _, v, _, _, hv, _⟩ := cell (i / P.cellsOf e) (i % P.cellsOf e) hq (Nat.mod_lt _ hpos)
      have e2 : i / P.cellsOf e * P.cellsOf e + i % P.cellsOf e = i := by rw [Nat.mul_comm]; exact Nat.div_add_mod _ _
      refine ⟨v, ?_⟩
      rw [← hv, addr_add, addr_add, Nat.add_assoc, e2]
    refine .list 0 _ parts ab ao len cap (fun i => (W.cell? ⟨ab, ao + i, none⟩).getD undef) (by omega) (by omega) h1.symm (by omega) (fun x hx => (h2 x hx).2) ?_ (fun i hi => ?_) (fun i x hx j c hc => ?_)
    · have hm : 0 < len * P.cellsOf e := Nat.mul_pos (by omega) hpos
      obtain ⟨v, hv⟩ := cell2 (len * P.cellsOf e - 1) (by omega)
      have := Lof_lt hv
      rw [h1]; omega
    · obtain ⟨v, hv⟩ := cell2 i (by rw [← h1]; exact hi)
      rw [hv]; rfl
    · have hi : i < len := by rw [← h1]; exact (List.getElem?_eq_some_iff.1 hx).1
      have hj : j < P.cellsOf e := by rw [← (h2 x (List.mem_of_getElem? hx)).2]; exact (List.getElem?_eq_some_iff.1 hc).1
      obtain ⟨p, c', v, hp, hc', hv, hr⟩ := cell i j hi hj
      rw [hx] at hp; obtain rfl := Option.some.inj hp
      rw [hc] at hc'; obtain rfl := Option.some.inj hc'
      have : W.cell? ⟨ab, ao + (i * P.cellsOf e + j), none⟩ = some v := by rw [← hv, addr_add, addr_add, Nat.add_assoc]
      simp only [this, Option.getD_some]; exact hr
theorem mapM_congr' {α β : Type} {f g : α → Option β} : ∀ {l : List α}, (∀ a ∈ l, f a = g a) → l.mapM f = l.mapM g
  | [], _ => rfl
  | a :: l, h => by
    simp only [List.mapM_cons]
    rw [h a (by simp), mapM_congr' fun b hb => h b (by simp [hb])]
theorem rel_chunks (z : Nat) : ∀ (parts : List (List AC)) (cs : List Value), cs.length = parts.length * z → (∀ p ∈ parts, p.length = z) → (∀ (i : Nat) (p : List AC), parts[i]? = some p → Rel W p ((cs.drop (i * z)).take z)) → Rel W parts.flatten cs
  | [], cs, hl, _, _ => by
    obtain rfl : cs = [] := List.eq_nil_of_length_eq_zero (by simpa using hl)
    exact ⟨rfl, fun j a v ha => by simp at ha⟩
  | p :: parts, cs, hl, hp, h => by
    have h0 := h 0 p rfl
    have e : cs = cs.take z ++ cs.drop z := (List.take_append_drop z cs).symm
    rw [e, List.flatten_cons]
    simp only [Nat.zero_mul, List.drop_zero] at h0
    refine h0.app (rel_chunks z parts (cs.drop z) (by simp only [List.length_cons, Nat.add_mul] at hl; simp; omega) (fun q hq => hp q (by simp [hq])) fun i q hq => ?_)
    have := h (i + 1) q (by simpa using hq)
    rwa [Nat.add_mul, Nat.one_mul, Nat.add_comm, ← List.drop_drop] at this
theorem got : ∀ (m n : Nat) (t : TypeId) (cs : List Value) (x : DataW H × List MemPlace), DataW.trod enc P W 0 sp true n t cs = some x → simpleB P m t = true → (∀ k ∈ x.1.weights P t, k ≤ reachBytes) → Got enc P W m t cs x.1 := by
  intro m
  induction m with
  | zero => intro n t cs x _ h; simp [simpleB] at h
  | succ m ih =>
    intro n t cs x h hs hw
    cases n with
    | zero => simp [DataW.trod] at h
    | succ n =>
      rw [DataW.trod_step] at h
      unfold DataW.trodStep at h
      unfold simpleB at hs
      unfold Got Fit
      split at h
      case h_1 b hu =>
        obtain rfl := Option.some.inj h
        simp only [hu]
        exact ⟨[.bool b], ⟨b, rfl⟩, .one (.bool b), by simp [bulkL, bulkC, Rows.uptoBulk]⟩
      case h_2 k k' i hu =>
        split at h
        · rename_i hk
          obtain ⟨rfl, hwf⟩ := hk
          obtain rfl := Option.some.inj h
          simp only [hu]
          exact ⟨[.int k' i], ⟨i, rfl, hwf⟩, .one (.int k' i), by simp [bulkL, bulkC, Rows.uptoBulk]⟩
        · cases h
      case h_4 s hu =>
        split at h
        · obtain rfl := Option.some.inj h
          simp only [hu]
          have hz : s.data.toList.length ≤ reachBytes := hw _ (by simp [DataW.weights])
          exact ⟨[.str s], ⟨s, rfl, by simpa using hz⟩, .one (.str s), by simp [bulkL, bulkC, Rows.uptoBulk]⟩
        · cases h
      case h_7 e hu =>
        obtain rfl := Option.some.inj h
        simp only [hu]
        exact ⟨[.list 0 (P.cellsOf e) []], ⟨[], rfl, by simp, by simp⟩, .one (.nil _ _ _ _ (by omega) (by omega)), by simp [bulkL, bulkC, bulkX, Rows.uptoBulk]⟩
      case h_8 e a len cap hu =>
        simp only [hu, Bool.and_eq_true, decide_eq_true_eq] at hs
        simp only at h
        split at h
        · rename_i hc
          simp only [Option.map_eq_some_iff, Option.bind_eq_some_iff] at h
          obtain ⟨elems, he, rest, hrest, rfl⟩ := h
          simp only [DataW.weights, hu] at hw
          obtain ⟨parts, h1, h2, h3, h4⟩ := elems_got (m := m) (n := n) (fun cs x hx hk => ih n e cs x hx hs.2 hk) (fun i => W.cells? 0 (a.add (i * P.cellsOf e)) (P.cellsOf e)) (fun i cs hcs => (World.cells?_some hcs).2.1) (List.range len) elems he (fun k hk => hw k (by simp [hk]))
          have hlen : elems.length = len := by simpa using mapM_some_length he
          simp only [List.length_range] at h1
          have hz := hw _ (List.mem_cons_self ..)
          simp only [List.length_map] at hz
          have hz2 : elems.length ≤ (elems.length + rest.length) * P.bytesOf e := by
            have := Nat.mul_le_mul_left (elems.length + rest.length) hs.1.2
            omega
          simp only [hu]
          exact ⟨[.list 0 (P.cellsOf e) parts], ⟨parts, rfl, by omega, h2⟩, .one (got_list hs.1.1 h1 h2 hc.2.1 h3), by simp only [bulkL, bulkC, Rows.uptoBulk]; omega⟩
        · cases h
      case h_9 cs' _ _ fs hu =>
        simp only [hu, Bool.and_eq_true] at hs
        split at h
        · rename_i hl
          obtain ⟨xs, hm, rfl⟩ := Option.map_eq_some_iff.1 h
          simp only [DataW.weights, hu] at hw
          obtain ⟨_, parts, h1, h2, h3, h4⟩ := fields_got (m := m) (n := n) (fun t cs x hx hk hw' => ih n t cs x hx hk hw') fs.toList 0 (P.cellsOf t) cs' xs hl hs.1 hs.2 hm hw
          simp only [hu]
          exact ⟨parts.flatten, ⟨parts, rfl, by simpa using h1, h2⟩, by simpa using h3, by rw [bulkL_flat]; simp only [Rows.uptoBulk]; omega⟩
        · cases h
      case h_10 cs' _ _ k e hu =>
        simp only [hu, Bool.and_eq_true, beq_iff_eq] at hs
        split at h
        · rename_i hl
          obtain ⟨xs, hm, rfl⟩ := Option.map_eq_some_iff.1 h
          simp only [DataW.weights, hu] at hw
          obtain ⟨parts, h1, h2, h3, h4⟩ := elems_got (m := m) (n := n) (fun cs x hx hk => ih n e cs x hx hs.2 hk) (fun i => if i < k then some ((cs'.drop (i * P.cellsOf e)).take (P.cellsOf e)) else none) (fun i cs hcs => by
            split at hcs
            · rename_i hi
              obtain rfl := Option.some.inj hcs
              have : (i + 1) * P.cellsOf e ≤ k * P.cellsOf e := Nat.mul_le_mul_right _ hi
              rw [Nat.add_mul] at this
              simp; omega
            · cases hcs) (List.range k) xs (by
            rw [← hm]
            apply mapM_congr'
            intro i hi
            simp at hi
            simp [hi]) hw
          simp only [List.length_range] at h1
          simp only [hu]
          refine ⟨parts.flatten, ⟨parts, rfl, h1, h2⟩, ?_, by rw [bulkL_flat]; simp only [Rows.uptoBulk]; omega⟩
          refine rel_chunks (P.cellsOf e) parts cs' (by rw [hl, hs.1, h1]) (fun p hp => (h2 p hp).2) fun i p hp => ?_
          have hi : i < k := by rw [← h1]; exact (List.getElem?_eq_some_iff.1 hp).1
          obtain ⟨cs, hcs, hr⟩ := h3 i i p (by simp [hi]) hp
          simp only [hi, if_true] at hcs
          obtain rfl := Option.some.inj hcs
          exact hr
        · cases h
      all_goals first | (cases h; done) | (rename_i hu; simp [hu] at hs; done)
end
end Go.Proofs.Ytimapebigcmbmaa

set_option linter.unusedVariables false
set_option linter.unusedSimpArgs false
namespace Go.Proofs.Ytimapebigcmbmaa
open Go Go.AI Go.Proofs Go.RowKit

/-- A parameter's value. -/
def FitV (P : Program) (t : TypeId) (v : AV) : Prop := match P.underlying t with
  | some (.struct _) | some (.array _ _) => ∃ cs, v = .agg cs ∧ Fit P 12 t cs
  | _ => ∃ a, v = .c a ∧ Fit P 12 t [a]
def bulkV : AV → Nat
  | .c a => bulkC a
  | .agg cs => bulkL cs
  | .tup _ => 0
def FitVs (P : Program) : List TypeId → List AV → Prop
  | [], [] => True
  | t :: ts, v :: vs => FitV P t v ∧ FitVs P ts vs
  | _, _ => False
def bulkVs : List AV → Nat
  | [] => 0
  | v :: vs => bulkV v + bulkVs vs
def g00 (W : World) : Gh := ⟨0, fun _ => 0, fun _ => 0, Lof W, fun _ => none⟩

section
variable {H : Type} {enc : TypeId × Value → H} {P : Program} {W : World} {sp : Nat → Bool}
theorem Fit.shared {n : Nat} {t : TypeId} {a : AC} (h : Fit P n t [a]) (hs : ∀ fs, P.underlying t ≠ some (.struct fs)) (ha : ∀ k e, P.underlying t ≠ some (.array k e)) : a.share = a := by
  cases n with
  | zero => exact h.elim
  | succ n =>
    unfold Fit at h
    split at h
    · obtain ⟨b, h⟩ := h; cases h; rfl
    · obtain ⟨m, h, _⟩ := h; cases h; rfl
    · obtain ⟨s, h, _⟩ := h; cases h; rfl
    · obtain ⟨xs, h, _⟩ := h; cases h; rfl
    · rename_i fs hu; exact absurd hu (hs fs)
    · rename_i k e hu; exact absurd hu (ha k e)
    · exact h.elim
theorem fit_shared : ∀ (n : Nat) (t : TypeId) (cs : List AC), Fit P n t cs → cs.map AC.share = cs := by
  intro n
  induction n with
  | zero => intro t cs h; exact h.elim
  | succ n ih =>
    intro t cs h
    have flat : ∀ parts : List (List AC), (∀ p ∈ parts, p.map AC.share = p) → parts.flatten.map AC.share = parts.flatten := by
      intro parts
      induction parts with
      | nil => intro _; rfl
      | cons p parts ihp =>
        intro hp
        rw [List.flatten_cons, List.map_append, hp p (by simp), ihp fun q hq => hp q (by simp [hq])]
    unfold Fit at h
    split at h
    · obtain ⟨b, rfl⟩ := h; rfl
    · obtain ⟨m, rfl, _⟩ := h; rfl
    · obtain ⟨s, rfl, _⟩ := h; rfl
    · obtain ⟨xs, rfl, _⟩ := h; rfl
    · obtain ⟨parts, rfl, hl, hp⟩ := h
      refine flat parts fun p hpm => ?_
      obtain ⟨i, hi, hpi⟩ := List.getElem_of_mem hpm
      rename_i fs _
      have hi' : i < fs.toList.length := by simpa [← hl] using hi
      exact ih _ _ (hp i fs.toList[i] p (List.getElem?_eq_getElem hi') (by rw [List.getElem?_eq_getElem hi, hpi])).1
    · obtain ⟨parts, rfl, hl, hp⟩ := h
      exact flat parts fun p hpm => ih _ _ (hp p hpm).1
    · exact h.elim
theorem arg_got {t : TypeId} {v : Value} {d : DataW H} {ps : List MemPlace} {base : Nat} (h : DataW.Trod enc P W 0 sp true t v d ps) (hv : Value.okWide P W .any base t v) (hs : simpleB P 12 t = true) (hw : ∀ k ∈ d.weights P t, k ≤ reachBytes) :
    ∃ a : AV, FitV P t a ∧ a.share = a ∧ (∀ k u, VRel W (g00 W) k u a v) ∧ bulkV a ≤ Rows.uptoBulk d := by
  obtain ⟨n, hn⟩ := h
  obtain ⟨acs, h1, h2, h3⟩ := got 12 n t _ _ hn hs hw
  unfold FitV
  unfold Value.okWide at hv
  by_cases hst : (∃ fs, P.underlying t = some (.struct fs)) ∨ ∃ k e, P.underlying t = some (.array k e)
  · have hag : ∃ cs, v = .agg cs := by
      rcases hst with ⟨fs, hu⟩ | ⟨k, e, hu⟩ <;> (simp only [hu] at hv; obtain ⟨cs, rfl, _⟩ := hv; exact ⟨cs, rfl⟩)
    obtain ⟨cs, rfl⟩ := hag
    refine ⟨.agg acs, ?_, by simp only [AV.share, fit_shared 12 t acs h1], fun k u =>   .s (.agg (by have := h2.1; simpa [Value.cells] using this) fun j a ha => ?_), h3⟩
    · rcases hst with ⟨fs, hu⟩ | ⟨k, e, hu⟩ <;> (simp only [hu]; exact ⟨acs, rfl, h1⟩)
    · have hj : j < acs.length := (List.getElem?_eq_some_iff.1 ha).1
      have hj2 : j < cs.size := by have := h2.1; simp [Value.cells] at this; omega
      have hv := h2.2 j a cs[j] ha (by simp [Value.cells, hj2])
      simp only [Array.getD_eq_getD_getElem?, Array.getElem?_eq_getElem hj2, Option.getD_some]
      exact .pure hv
  · have hns : ∀ fs, P.underlying t ≠ some (.struct fs) := fun fs hu => hst (.inl ⟨fs, hu⟩)
    have hna : ∀ k e, P.underlying t ≠ some (.array k e) := fun k e hu => hst (.inr ⟨k, e, hu⟩)
    have hcell : Cell.okWide P W .any base t v := by
      split at hv
      · rename_i fs hu; exact absurd hu (hns fs)
      · rename_i k e hu; exact absurd hu (hna k e)
      · exact hv
    have hone : v.cells.toList = [v] := by
      cases v with
      | agg cs =>
        exfalso
        simp only [Cell.okWide, Cell.ok] at hcell
        split at hcell <;> first | (cases hcell; done) | (simp_all; done) | skip
      | _ => rfl
    rw [hone] at h2
    obtain ⟨a, rfl⟩ : ∃ a, acs = [a] := by
      have := h2.1
      cases acs with
      | nil => simp at this
      | cons a r => cases r with
        | nil => exact ⟨a, rfl⟩
        | cons b r => simp at this
    refine ⟨.c a, ?_, by simp only [AV.share, h1.shared hns hna], fun k u => .s (.c (.pure (h2.2 0 a v rfl rfl))), by simpa [bulkL, bulkV] using h3⟩
    split
    · rename_i fs hu; exact absurd hu (hns fs)
    · rename_i k e hu; exact absurd hu (hna k e)
    · exact ⟨a, rfl, h1⟩
theorem args_got : ∀ (ts : List TypeId) (vs : List Value) (ds : List (DataW H)) (ps : List MemPlace) (base : Nat), DataW.TrodAll enc P W 0 sp true ts vs ds ps → (∀ (j : Nat) t v, ts[j]? = some t → vs[j]? = some v → Value.okWide P W .any base t v) → (∀ t ∈ ts, simpleB P 12 t = true) → (∀ k ∈ DataW.weightsEach P ts ds, k ≤ reachBytes) →
    ∃ avs : List AV, FitVs P ts avs ∧ avs.length = vs.length ∧ (∀ (i : Nat) (x : AV) (v : Value), avs[i]? = some x → vs[i]? = some v → x.share = x ∧ ∀ k u, VRel W (g00 W) k u x v) ∧ bulkVs avs ≤ Rows.uptoBulkAll ds
  | [], [], [], ps, _, _, _, _, _ => ⟨[], trivial, rfl, fun i x v h => by simp at h, by simp [bulkVs]⟩
  | t :: ts, v :: vs, d :: ds, ps, base, h, hv, hs, hw => by
    obtain ⟨p, q, h1, h2, _⟩ := h
    simp only [DataW.weightsEach, List.mem_append] at hw
    obtain ⟨a, a1, a2, a3, a4⟩ := arg_got h1 (hv 0 t v rfl rfl) (hs t (by simp)) (fun k hk => hw k (.inl hk))
    obtain ⟨avs, b1, b2, b3, b4⟩ := args_got ts vs ds q base h2 (fun j t v ht hv' => hv (j + 1) t v (by simpa using ht) (by simpa using hv')) (fun t ht => hs t (by simp [ht])) (fun k hk => hw k (.inr hk))
    refine ⟨a :: avs, ⟨a1, b1⟩, by simp [b2], fun i x w hx hw' => ?_, by simp only [bulkVs, Rows.uptoBulkAll]; omega⟩
    cases i with
    | zero => simp at hx hw'; subst hx; subst hw'; exact ⟨a2, a3⟩
    | succ i => simp at hx hw'; exact b3 i x w hx hw'
  | [], _ :: _, _, _, _, h, _, _, _ => h.elim
  | [], [], _ :: _, _, _, h, _, _, _ => h.elim
  | _ :: _, [], _, _, _, h, _, _, _ => h.elim
  | _ :: _, _ :: _, [], _, _, h, _, _, _ => h.elim

/-- A law's call: it returns true, and what came in reads as it did. -/
theorem law_calls {f : Nat} {fn : Func} {rt : TypeId} {s : ChangeSpec} {args : Array Value} {ds gs : List (DataW H)} {before : List MemPlace} {base : Nat} (hl : laidOutB P = true) (hfn : P.funcs[f]? = some fn) (hres : fn.resultTypes = #[rt]) (hrt : P.underlying rt = some .bool)
    (hread : ∀ t ∈ fn.params.toList, simpleB P 12 t = true ∧ P.readableRec t = true ∧ t < P.types.size) (hvars : s.vars = []) (hspec : ∀ ds : List (DataW H), ds.length = fn.params.size → s.fn H ds = { results := [.lit (.bool true)], args := ds })
    (hval : ∀ (j : Nat) t v, fn.params[j]? = some t → args[j]? = some v → Value.okWide P W .any base t v) (hW : DataW.Whole enc P fn.params.toList s.vars false W args.toList ds gs before)
    (hsz : (DataW.weightsEach P (fn.params.toList ++ s.plain.varTypes P) (ds ++ gs)).all (· ≤ reachBytes) = true) (hsz2 : s.plain.varTypes P = [])
    (hrun : ∀ avs, FitVs P fn.params.toList avs → bulkVs avs ≤ Rows.uptoBulkAll ds → RunsTo P f avs [] (.c (.bool true)) []) :
    Calls P f args W fun e W' => ∃ v, e = .returned v ∧ s.post enc P fn false true false false W args v W' := by
  have hW' := hW
  obtain ⟨p, q, hA, hV, hb, hfz, hnd⟩ := hW
  rw [hvars] at hV
  obtain ⟨rfl, rfl⟩ : gs = [] ∧ q = [] := by
    cases gs with
    | nil => exact ⟨rfl, hV⟩
    | cons _ _ => exact hV.elim
  rw [hsz2] at hsz
  simp only [List.append_nil, List.all_eq_true, decide_eq_true_eq] at hsz hb
  obtain ⟨avs, h1, h2, h3, h4⟩ := args_got _ _ _ _ base hA (fun j t v ht hv => hval j t v (by simpa using ht) (by simpa using hv)) (fun t ht => (hread t ht).1) hsz
  obtain ⟨hc, hR⟩ := hrun avs h1 h4
  have hH : HSt W (g00 W) [] := ⟨rfl, fun id b h => by simp at h, fun id id' b b' h => by simp at h, fun b hb => ⟨by simp [g00, Lof, Array.getElem?_eq_none hb], rfl⟩⟩
  have hM : ∀ b, ¬ Mset (g00 W) [] b := by
    rintro b (⟨id, k, h, _⟩ | ⟨id, i, j, h⟩)
    · simp at h
    · simp [g00] at h
  refine (hR W (g00 W) args hH (by simpa using h2) (fun i x hx => ?_)).mono fun e W' ⟨v, g', he, _, hr, hext, _⟩ => ?_
  · have hi : i < args.size := by have := (List.getElem?_eq_some_iff.1 hx).1; have := h2; simp at this; omega
    obtain ⟨e1, e2⟩ := h3 i x args[i] hx (by simp [hi])
    refine ⟨e1, fun k u => ?_⟩
    simp only [Array.getD_eq_getD_getElem?, Array.getElem?_eq_getElem hi, Option.getD_some]
    exact e2 k u
  · subst he
    have hv : v = .bool true := hr.c_inv.bool_inv
    subst hv
    have bel : Below W.heap.size W W' := ⟨hext.evo.os, hext.evo.tape, hext.evo.output, hext.evo.size, fun b hb => hext.evo.block b hb (hM b)⟩
    have hlen : ds.length = fn.params.size := by
      have : ∀ (ts : List TypeId) (vs : List Value) (ds : List (DataW H)) (ps : List MemPlace), DataW.TrodAll enc P W 0 (fun _ => true) true ts vs ds ps → ds.length = ts.length := by
        intro ts
        induction ts with
        | nil => intro vs ds ps h; cases vs <;> cases ds <;> first | rfl | exact h.elim
        | cons t ts ih =>
          intro vs ds ps h
          cases vs with
          | nil => exact h.elim
          | cons v vs => cases ds with
            | nil => exact h.elim
            | cons d ds => obtain ⟨_, q, _, h, _⟩ := h; simp [ih _ _ _ h]
      simpa using this _ _ _ _ hA
    have hs := hspec ds hlen
    have back : ∀ (ts : List TypeId) (vs : List Value) (ds : List (DataW H)) (ps : List MemPlace), (∀ t ∈ ts, P.readableRec t = true ∧ t < P.types.size) → DataW.TrodAll enc P W 0 (fun _ => true) true ts vs ds ps → (∀ x ∈ ps, x.block < W.heap.size) → DataW.TrodAll enc P W' 0 (fun b => decide (b < W.heap.size)) true ts vs ds ps := by
      intro ts
      induction ts with
      | nil => intro vs ds ps _ h _; cases vs <;> cases ds <;> first | exact h | exact h.elim
      | cons t ts ih =>
        intro vs ds ps ht h hlt
        cases vs with
        | nil => exact h.elim
        | cons v vs => cases ds with
          | nil => exact h.elim
          | cons d ds =>
            obtain ⟨p, q, h1, h2, rfl⟩ := h
            exact ⟨p, q, Below.trod hl (ht t (by simp)).1 (ht t (by simp)).2 h1 bel (fun x hx => hlt x (by simp [hx])), ih _ _ _ (fun t h => ht t (by simp [h])) h2 (fun x hx => hlt x (by simp [hx])), rfl⟩
    refine ⟨_, rfl, ds, [], before, [], p, [], hW', ?_, ?_, ?_, bel.frame _, fun h => by cases h⟩
    · rw [List.append_nil, hs, hres]
      exact ⟨[], [], ⟨1, by simp [DataW.trod, hrt, Value.cells]⟩, rfl, rfl⟩
    · rw [List.append_nil, hs]
      exact back _ _ _ _ (fun t ht => (hread t ht).2) hA (fun x hx => hW'.lt x (by rw [hb]; exact hx))
    · rw [List.append_nil, hs, hvars]
      rfl
end
end Go.Proofs.Ytimapebigcmbmaa

set_option linter.unusedVariables false
set_option linter.unusedSimpArgs false
namespace Go.Proofs.Ytimapebigcmbmaa
open Go Go.AI Go.Proofs

/-! ### Parameters laid open by their types -/
section
variable {P : Program}
theorem wf_i64 {n : Int} (h : (Lit.int .i64 n).wf = true) : -9223372036854775808 ≤ n ∧ n < 9223372036854775808 := by
  have := (Lit.wf_int_iff .i64 n).1 h
  rw [IntKind.min_i64, IntKind.max_i64] at this; omega
theorem wf_u8 {n : Int} (h : (Lit.int .u8 n).wf = true) : 0 ≤ n ∧ n < 256 := by
  have h1 := (Lit.wf_int_iff .u8 n).1 h
  have h2 : IntKind.u8.min = 0 := by rfl
  have h3 : IntKind.u8.max = 255 := by rfl
  rw [h2, h3] at h1; omega
theorem fit_int {n : Nat} {t : TypeId} {k : IntKind} {cs : List AC} (ht : P.underlying t = some (.int k)) (h : Fit P n t cs) : ∃ m, cs = [.int k m] ∧ (Lit.int k m).wf = true := by
  cases n with
  | zero => exact h.elim
  | succ n => unfold Fit at h; simp only [ht] at h; exact h
theorem fit_bool {n : Nat} {t : TypeId} {cs : List AC} (ht : P.underlying t = some .bool) (h : Fit P n t cs) : ∃ b, cs = [.bool b] := by
  cases n with
  | zero => exact h.elim
  | succ n => unfold Fit at h; simp only [ht] at h; exact h
theorem fit_str {n : Nat} {t : TypeId} {cs : List AC} (ht : P.underlying t = some .string) (h : Fit P n t cs) : ∃ s : ByteArray, cs = [.str s] ∧ s.size ≤ reachBytes := by
  cases n with
  | zero => exact h.elim
  | succ n => unfold Fit at h; simp only [ht] at h; exact h
theorem fit_slice {n : Nat} {t e : TypeId} {cs : List AC} (ht : P.underlying t = some (.slice e)) (h : Fit P n t cs) : ∃ xs, cs = [.list 0 (P.cellsOf e) xs] ∧ xs.length ≤ reachBytes ∧ ∀ x ∈ xs, Fit P (n - 1) e x ∧ x.length = P.cellsOf e := by
  cases n with
  | zero => exact h.elim
  | succ n => unfold Fit at h; simp only [ht] at h; exact h
theorem fit_struct {n : Nat} {t : TypeId} {fs : Array Field} {cs : List AC} (ht : P.underlying t = some (.struct fs)) (h : Fit P n t cs) : ∃ parts : List (List AC), cs = parts.flatten ∧ parts.length = fs.size ∧ ∀ (i : Nat) (f : Field) (p : List AC), fs.toList[i]? = some f → parts[i]? = some p → Fit P (n - 1) f.type p ∧ p.length = P.cellsOf f.type := by
  cases n with
  | zero => exact h.elim
  | succ n => unfold Fit at h; simp only [ht] at h; exact h
theorem fit_array {n k : Nat} {t e : TypeId} {cs : List AC} (ht : P.underlying t = some (.array k e)) (h : Fit P n t cs) : ∃ parts : List (List AC), cs = parts.flatten ∧ parts.length = k ∧ ∀ p ∈ parts, Fit P (n - 1) e p ∧ p.length = P.cellsOf e := by
  cases n with
  | zero => exact h.elim
  | succ n => unfold Fit at h; simp only [ht] at h; exact h
theorem fitV_c {t : TypeId} {v : AV} (h : FitV P t v) (hs : ∀ fs, P.underlying t ≠ some (.struct fs)) (ha : ∀ k e, P.underlying t ≠ some (.array k e)) : ∃ a, v = .c a ∧ Fit P 12 t [a] := by
  unfold FitV at h
  split at h
  · rename_i fs hu; exact absurd hu (hs fs)
  · rename_i k e hu; exact absurd hu (ha k e)
  · exact h
theorem fitV_struct {t : TypeId} {fs : Array Field} {v : AV} (ht : P.underlying t = some (.struct fs)) (h : FitV P t v) : ∃ cs, v = .agg cs ∧ Fit P 12 t cs := by
  unfold FitV at h
  simp only [ht] at h
  exact h
theorem fitV_int {t : TypeId} {k : IntKind} {v : AV} (ht : P.underlying t = some (.int k)) (h : FitV P t v) : ∃ m, v = .c (.int k m) ∧ (Lit.int k m).wf = true := by
  obtain ⟨a, rfl, h'⟩ := fitV_c h (by rw [ht]; simp) (by rw [ht]; simp)
  obtain ⟨m, e, hw⟩ := fit_int ht h'
  cases e; exact ⟨m, rfl, hw⟩
theorem fitV_bool {t : TypeId} {v : AV} (ht : P.underlying t = some .bool) (h : FitV P t v) : ∃ b, v = .c (.bool b) := by
  obtain ⟨a, rfl, h'⟩ := fitV_c h (by rw [ht]; simp) (by rw [ht]; simp)
  obtain ⟨m, e⟩ := fit_bool ht h'
  cases e; exact ⟨m, rfl⟩
theorem fitV_str {t : TypeId} {v : AV} (ht : P.underlying t = some .string) (h : FitV P t v) : ∃ s : ByteArray, v = .c (.str s) ∧ s.size ≤ reachBytes := by
  obtain ⟨a, rfl, h'⟩ := fitV_c h (by rw [ht]; simp) (by rw [ht]; simp)
  obtain ⟨m, e, hw⟩ := fit_str ht h'
  cases e; exact ⟨m, rfl, hw⟩
theorem fitV_slice {t e : TypeId} {v : AV} (ht : P.underlying t = some (.slice e)) (h : FitV P t v) : ∃ xs, v = .c (.list 0 (P.cellsOf e) xs) ∧ xs.length ≤ reachBytes ∧ ∀ x ∈ xs, Fit P 11 e x ∧ x.length = P.cellsOf e := by
  obtain ⟨a, rfl, h'⟩ := fitV_c h (by rw [ht]; simp) (by rw [ht]; simp)
  obtain ⟨m, e, hw⟩ := fit_slice ht h'
  cases e; exact ⟨m, rfl, hw⟩
/-- Rows read by one reading each. -/
theorem rows_of {α : Type} {rows : α → List AC} {Q : List AC → Prop} {R : α → Prop} (hq : ∀ x, Q x → ∃ a, x = rows a ∧ R a) : ∀ (xs : List (List AC)), (∀ x ∈ xs, Q x) → ∃ l : List α, xs = l.map rows ∧ ∀ a ∈ l, R a
  | [], _ => ⟨[], rfl, by simp⟩
  | x :: xs, h => by
    obtain ⟨a, rfl, ha⟩ := hq x (h x (by simp))
    obtain ⟨l, rfl, hl⟩ := rows_of hq xs fun y hy => h y (by simp [hy])
    exact ⟨a :: l, rfl, by simpa using ⟨ha, hl⟩⟩
theorem u8_of {m : Int} (h : (Lit.int .u8 m).wf = true) : ∃ b : UInt8, m = b.toNat := by
  have := wf_u8 h
  exact ⟨UInt8.ofNat m.toNat, by simp; omega⟩
theorem fitV_bytes {t e : TypeId} {v : AV} (ht : P.underlying t = some (.slice e)) (he : P.underlying e = some (.int .u8)) (hc : P.cellsOf e = 1) (h : FitV P t v) : ∃ l : List UInt8, v = .c (.list 0 1 (l.map fun b => [.int .u8 b.toNat])) ∧ l.length ≤ reachBytes := by
  obtain ⟨xs, rfl, hl, hx⟩ := fitV_slice ht h
  obtain ⟨l, rfl, _⟩ := rows_of (rows := fun b : UInt8 => [.int .u8 b.toNat]) (R := fun _ => True) (fun x hx => by
    obtain ⟨m, rfl, hw⟩ := fit_int he hx.1
    obtain ⟨b, rfl⟩ := u8_of hw
    exact ⟨b, rfl, trivial⟩) xs hx
  exact ⟨l, by rw [hc], by simpa using hl⟩
theorem fitV_ints {t e : TypeId} {k : IntKind} {v : AV} (ht : P.underlying t = some (.slice e)) (he : P.underlying e = some (.int k)) (hc : P.cellsOf e = 1) (h : FitV P t v) : ∃ l : List Int, v = .c (.list 0 1 (l.map fun b => [.int k b])) ∧ l.length ≤ reachBytes ∧ ∀ x ∈ l, (Lit.int k x).wf = true := by
  obtain ⟨xs, rfl, hl, hx⟩ := fitV_slice ht h
  obtain ⟨l, rfl, hR⟩ := rows_of (rows := fun b : Int => [.int k b]) (R := fun x => (Lit.int k x).wf = true) (fun x hx => by
    obtain ⟨m, rfl, hw⟩ := fit_int he hx.1
    exact ⟨m, rfl, hw⟩) xs hx
  exact ⟨l, by rw [hc], by simpa using hl, hR⟩
theorem fitV_strs {t e : TypeId} {v : AV} (ht : P.underlying t = some (.slice e)) (he : P.underlying e = some .string) (hc : P.cellsOf e = 1) (h : FitV P t v) : ∃ l : List ByteArray, v = .c (.list 0 1 (l.map fun b => [.str b])) ∧ l.length ≤ reachBytes ∧ ∀ x ∈ l, x.size ≤ reachBytes := by
  obtain ⟨xs, rfl, hl, hx⟩ := fitV_slice ht h
  obtain ⟨l, rfl, hR⟩ := rows_of (rows := fun b : ByteArray => [.str b]) (R := fun x => x.size ≤ reachBytes) (fun x hx => by
    obtain ⟨m, rfl, hw⟩ := fit_str he hx.1
    exact ⟨m, rfl, hw⟩) xs hx
  exact ⟨l, by rw [hc], by simpa using hl, hR⟩
theorem flat_one {α : Type} (f : α → AC) : ∀ l : List α, (l.map fun b => [f b]).flatten = l.map f
  | [] => rfl
  | b :: l => by rw [List.map_cons, List.flatten_cons, flat_one f l]; rfl
theorem fit_bytes_array {n k : Nat} {t e : TypeId} {cs : List AC} (ht : P.underlying t = some (.array k e)) (he : P.underlying e = some (.int .u8)) (h : Fit P n t cs) : ∃ l : List UInt8, cs = l.map (fun b => .int .u8 b.toNat) ∧ l.length = k := by
  obtain ⟨parts, rfl, hl, hp⟩ := fit_array ht h
  obtain ⟨l, rfl, _⟩ := rows_of (rows := fun b : UInt8 => [.int .u8 b.toNat]) (R := fun _ => True) (fun x hx => by
    obtain ⟨m, rfl, hw⟩ := fit_int he hx.1
    obtain ⟨b, rfl⟩ := u8_of hw
    exact ⟨b, rfl, trivial⟩) parts hp
  exact ⟨l, flat_one _ l, by simpa using hl⟩
theorem fitV_digests {t e u : TypeId} {k : Nat} {v : AV} (ht : P.underlying t = some (.slice e)) (he : P.underlying e = some (.array k u)) (hu : P.underlying u = some (.int .u8)) (hc : P.cellsOf e = k) (h : FitV P t v) : ∃ l : List (List UInt8), v = .c (.list 0 k (l.map fun d => d.map fun b => .int .u8 b.toNat)) ∧ l.length ≤ reachBytes ∧ ∀ d ∈ l, d.length = k := by
  obtain ⟨xs, rfl, hl, hx⟩ := fitV_slice ht h
  obtain ⟨l, rfl, hR⟩ := rows_of (rows := fun d : List UInt8 => d.map fun b => .int .u8 b.toNat) (R := fun d => d.length = k) (fun x hx => by
    obtain ⟨d, rfl, hd⟩ := fit_bytes_array he hu hx.1
    exact ⟨d, rfl, hd⟩) xs hx
  exact ⟨l, by rw [hc], by simpa using hl, hR⟩
theorem bulk_strs (l : List ByteArray) : bulkX (l.map fun b => [.str b]) = l.length + (l.map ByteArray.size).sum := by
  induction l with
  | nil => rfl
  | cons x l ih => simp only [List.map_cons, bulkX, bulkL, bulkC, ih, List.length_cons, List.sum_cons]; omega
theorem bulk_len {esz : Nat} : ∀ (xs : List (List AC)), (∀ x ∈ xs, x.length = esz) → 0 < esz → xs.length ≤ bulkX xs
  | [], _, _ => by simp [bulkX]
  | x :: xs, h, hp => by
    have ih := bulk_len xs (fun y hy => h y (by simp [hy])) hp
    have hx := h x (by simp)
    have h1 : 1 ≤ bulkL x := by
      cases x with
      | nil => simp at hx; omega
      | cons a r =>
        have : 1 ≤ bulkC a := by cases a <;> simp [bulkC]
        simp only [bulkL]; omega
    simp only [bulkX, List.length_cons]; omega
end
end Go.Proofs.Ytimapebigcmbmaa
