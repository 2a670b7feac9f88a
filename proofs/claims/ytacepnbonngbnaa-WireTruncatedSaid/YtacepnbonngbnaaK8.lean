/- A part of the proofs: a verified symbolic execution of Go's code, and what each function of the program computes; no conditions of its own. -/
import Derived.Test.YtacepnbonngbnaaK7

set_option linter.unusedVariables false
set_option linter.unusedSimpArgs false
namespace Go.Proofs.Ytacepnbonngbnaa
open Go Go.AI Go.Proofs

/-! ### Plain laws of the encoding -/
theorem unzz_zz (n : Int) (h : i64R n) : unzz (zz n) = n := by
  obtain ⟨h1, h2⟩ := h
  unfold unzz zz
  by_cases h : 0 ≤ n
  · rw [if_pos h, if_pos (by omega)]; omega
  · rw [if_neg h, if_neg (by omega)]; omega
theorem zz_unzz (z : Nat) : zz (unzz z) = z := by
  unfold unzz zz
  by_cases h : z % 2 = 0
  · rw [if_pos h, if_pos (by omega)]; omega
  · rw [if_neg h, if_neg (by omega)]; omega
theorem zz_lt (n : Int) (h : i64R n) : zz n < 18446744073709551616 := by
  obtain ⟨h1, h2⟩ := h
  unfold zz; split <;> omega
theorem u8_small {n : Nat} (h : n < 256) : (UInt8.ofNat n).toNat = n := by simp; omega
theorem vb_pos (n : Nat) : 0 < (vb n).length := by rw [vb]; split <;> simp
theorem p128 (i : Nat) (h : 10 ≤ i) : 1180591620717411303424 ≤ 128 ^ i := by
  have : 128 ^ 10 ≤ 128 ^ i := Nat.pow_le_pow_right (by decide) h
  have e : (128 : Nat) ^ 10 = 1180591620717411303424 := by decide
  omega
/-- Decoding an encoding. -/
theorem gi_vb (tail : List UInt8) : ∀ (z i u : Nat), z * 128 ^ i < 18446744073709551616 → (0 < i → 0 < z) → i ≤ 9 → gi (vb z ++ tail) i u = (unzz (u + z * 128 ^ i), i + (vb z).length, 0) := by
  intro z
  induction z using Nat.strongRecOn with
  | ind z ih =>
    intro i u hz hi h9
    by_cases h : z < 128
    · rw [vb_1 h]
      have hc : (UInt8.ofNat z).toNat = z := u8_small (by omega)
      rw [List.singleton_append, gi_end (by
        rw [hc]
        rintro (⟨h1, h2⟩ | ⟨h1, h2⟩)
        · subst h1
          have : 2 * 128 ^ 9 ≤ z * 128 ^ 9 := Nat.mul_le_mul_right _ h2
          have e : (128 : Nat) ^ 9 = 9223372036854775808 := by decide
          omega
        · have := hi h1; omega) (by omega), hc]
      rfl
    · rw [vb_2 h, List.cons_append]
      have hc : (UInt8.ofNat (z % 128 + 128)).toNat = z % 128 + 128 := u8_small (by omega)
      have h8 : i ≠ 9 := by
        rintro rfl
        have : 128 * 128 ^ 9 ≤ z * 128 ^ 9 := Nat.mul_le_mul_right _ (by omega)
        have e : (128 : Nat) ^ 9 = 9223372036854775808 := by decide
        omega
      rw [gi_more (by omega) (by omega), hc, show z % 128 + 128 - 128 = z % 128 by omega]
      have e1 : z / 128 * 128 ^ (i + 1) + z % 128 * 128 ^ i = z * 128 ^ i := by
        rw [Nat.pow_succ, Nat.mul_comm (128 ^ i) 128, ← Nat.mul_assoc, ← Nat.add_mul]
        congr 1; omega
      rw [ih (z / 128) (by omega) (i + 1) _ (by omega) (by omega) (by omega)]
      simp only [List.length_cons, Prod.mk.injEq, and_true]
      exact ⟨by congr 1; omega, by omega⟩
theorem gi_zb (n : Int) (h : i64R n) (tail : List UInt8) : gi (zb n ++ tail) 0 0 = (n, (zb n).length, 0) := by
  have := gi_vb tail (zz n) 0 0 (by simpa using zz_lt n h) (by omega) (by omega)
  simpa [zb, unzz_zz n h] using this
/-- What is decoded is an encoding. -/
theorem gi_canon : ∀ (l : List UInt8) (i u : Nat) (x : Int) (j : Nat), gi l i u = (x, j, 0) → i ≤ j ∧ j ≤ i + l.length ∧ ∃ z, l.take (j - i) = vb z ∧ x = unzz (u + z * 128 ^ i) ∧ (0 < i → 0 < z) := by
  intro l
  induction l with
  | nil => intro i u x j h; simp [gi] at h
  | cons c l ih =>
    intro i u x j h
    have hc := c.toNat_lt
    by_cases h1 : (i = 9 ∧ 1 < c.toNat) ∨ (0 < i ∧ c.toNat = 0)
    · rw [gi_stop h1] at h; simp at h
    · by_cases h2 : c.toNat < 128
      · rw [gi_end h1 h2] at h
        simp only [Prod.mk.injEq, and_true] at h
        obtain ⟨rfl, rfl⟩ := h
        refine ⟨by omega, by simp, c.toNat, ?_, rfl, by omega⟩
        rw [show i + 1 - i = 1 by omega, vb_1 h2]
        simp
      · rw [gi_more h1 h2] at h
        obtain ⟨h3, h4, z, h5, h6, h7⟩ := ih _ _ _ _ h
        refine ⟨by omega, by simp; omega, (c.toNat - 128) + 128 * z, ?_, ?_, by omega⟩
        · rw [show j - i = (j - (i + 1)) + 1 by omega, List.take_succ_cons, h5, vb_2 (by omega : ¬ (c.toNat - 128) + 128 * z < 128)]
          have e1 : ((c.toNat - 128) + 128 * z) / 128 = z := by omega
          have e2 : ((c.toNat - 128) + 128 * z) % 128 + 128 = c.toNat := by omega
          rw [e1, e2]; simp
        · rw [h6, Nat.pow_succ]
          congr 1
          rw [Nat.add_mul, Nat.mul_comm (128 ^ i) 128, ← Nat.mul_assoc, Nat.mul_comm z 128]; omega
theorem gi_take {l : List UInt8} {x : Int} {j : Nat} (h : gi l 0 0 = (x, j, 0)) : zb x = l.take j ∧ j ≤ l.length := by
  obtain ⟨_, h1, z, h2, h3, _⟩ := gi_canon l 0 0 x j h
  refine ⟨?_, by omega⟩
  rw [h3, zb]
  simp only [Nat.zero_add, Nat.pow_zero, Nat.mul_one, zz_unzz]
  simpa using h2.symm
theorem vb_prefix : ∀ (z k : Nat), k < (vb z).length → ∀ c ∈ (vb z).take k, 128 ≤ c.toNat := by
  intro z
  induction z using Nat.strongRecOn with
  | ind z ih =>
    intro k hk c hc
    by_cases h : z < 128
    · rw [vb_1 h] at hk
      have : k = 0 := by simpa using hk
      subst this; simp at hc
    · rw [vb_2 h] at hk hc
      cases k with
      | zero => simp at hc
      | succ k =>
        rw [List.take_succ_cons] at hc
        rcases List.mem_cons.1 hc with h1 | h1
        · subst h1; rw [u8_small (by omega)]; omega
        · exact ih (z / 128) (by omega) k (by simpa using hk) c h1
theorem gi_short (n : Int) (h : i64R n) (k : Nat) (hk : k < (zb n).length) : gi ((zb n).take k) 0 0 = (0, 0, 10) := by
  have hl := zb_len n h.1 h.2
  have := gi_pre [] ((zb n).take k) [] (vb_prefix _ k hk) (by simp; omega)
  simpa [hv, gi] using this
theorem vb_mono : ∀ (a b : Nat), a ≤ b → (vb a).length ≤ (vb b).length := by
  intro a
  induction a using Nat.strongRecOn with
  | ind a ih =>
    intro b hb
    by_cases h : a < 128
    · rw [vb_1 h]; exact vb_pos b
    · rw [vb_2 h, vb_2 (by omega : ¬ b < 128)]
      simp only [List.length_cons]
      have := ih (a / 128) (by omega) (b / 128) (by omega)
      omega
theorem vb_pair : ∀ q : Nat, (vb (2 * q)).length = (vb (2 * q + 1)).length := by
  intro q
  by_cases h : 2 * q < 128
  · rw [vb_1 h, vb_1 (by omega)]; rfl
  · rw [vb_2 h, vb_2 (by omega : ¬ 2 * q + 1 < 128)]
    simp only [List.length_cons]
    rw [show 2 * q / 128 = (2 * q + 1) / 128 by omega]
theorem zb_mirror (m : Int) : (zb (-1 - m)).length = (zb m).length := by
  unfold zb zz
  by_cases h : 0 ≤ m
  · rw [if_pos h, if_neg (by omega)]
    have := vb_pair m.toNat
    rw [show (2 * m).toNat = 2 * m.toNat by omega, show (-2 * (-1 - m) - 1).toNat = 2 * m.toNat + 1 by omega]; exact this.symm
  · rw [if_neg h, if_pos (by omega)]
    have := vb_pair (-1 - m).toNat
    rw [show (2 * (-1 - m)).toNat = 2 * (-1 - m).toNat by omega, show (-2 * m - 1).toNat = 2 * (-1 - m).toNat + 1 by omega]; exact this
theorem zb_near (m n : Int) (h : max m (-1 - m) ≤ max n (-1 - n)) : (zb m).length ≤ (zb n).length := by
  have key : ∀ x : Int, (zb x).length = (vb (2 * (max x (-1 - x)).toNat)).length := fun x => by
    unfold zb zz
    by_cases h : 0 ≤ x
    · rw [if_pos h]; congr 2; omega
    · rw [if_neg h]
      have := vb_pair (-1 - x).toNat
      rw [show (-2 * x - 1).toNat = 2 * (-1 - x).toNat + 1 by omega, ← this]
      congr 3; omega
  rw [key m, key n]
  exact vb_mono _ _ (by omega)
theorem zb_pos (n : Int) : 0 < (zb n).length := vb_pos _
theorem zb_one (n : Int) : (zb n).length = 1 ↔ -64 ≤ n ∧ n < 64 := by
  unfold zb
  constructor
  · intro h
    by_cases h1 : zz n < 128
    · unfold zz at h1; split at h1 <;> omega
    · rw [vb_2 h1] at h
      have := vb_pos (zz n / 128)
      simp only [List.length_cons] at h; omega
  · intro h
    rw [vb_1 (by unfold zz; split <;> omega)]; rfl
/-- No encoding is a proper prefix of another one. -/
theorem zb_prefix (m n : Int) (hm : i64R m) (hn : i64R n) (h : (zb m).take (min (zb m).length (zb n).length) = (zb n).take (min (zb m).length (zb n).length)) : m = n := by
  have key : ∀ x y : Int, i64R x → i64R y → zb x = (zb y).take (zb x).length → x = y := fun x y hx hy h => by
    have hs : zb y = zb x ++ (zb y).drop (zb x).length := by
      conv => lhs; rw [← List.take_append_drop (zb x).length (zb y), ← h]
    have e := gi_zb x hx ((zb y).drop (zb x).length)
    have e2 := gi_zb y hy []
    rw [List.append_nil] at e2
    exact (Prod.mk.inj (e.symm.trans ((congrArg (fun l => gi l 0 0) hs).symm.trans e2))).1
  rcases Nat.le_total (zb m).length (zb n).length with h1 | h1
  · rw [Nat.min_eq_left h1, List.take_length] at h
    exact key m n hm hn h
  · rw [Nat.min_eq_right h1, List.take_length] at h
    exact (key n m hn hm h.symm).symm
end Go.Proofs.Ytacepnbonngbnaa

set_option linter.unusedVariables false
set_option linter.unusedSimpArgs false
namespace Go.Proofs.Ytacepnbonngbnaa
open Go Go.AI Go.Proofs

/-! ### Plain laws of lists -/
theorem gL_enc (k n : Nat) (hk : 0 < k) (hn : n < 9223372036854775808) (rest : List UInt8) (h : n * k ≤ rest.length) : gL k (zb n ++ rest) = ((n : Int), (zb n).length, 0) := by
  refine gL_ok (gi_zb n ⟨by omega, by omega⟩ rest) (by omega) ?_
  have e : (zb (n : Int) ++ rest).length - (zb (n : Int)).length = rest.length := by simp
  rw [e]
  have : n ≤ rest.length / k := (Nat.le_div_iff_mul_le hk).2 h
  omega
theorem gL_enc_short (k n : Nat) (hk : 0 < k) (hn : n < 9223372036854775808) (rest : List UInt8) (h : rest.length < n * k) : gL k (zb n ++ rest) = (0, 0, 10) := by
  refine gL_short (gi_zb n ⟨by omega, by omega⟩ rest) (by omega) ?_
  have e : (zb (n : Int) ++ rest).length - (zb (n : Int)).length = rest.length := by simp
  rw [e]
  have : rest.length / k < n := (Nat.div_lt_iff_lt_mul hk).2 h
  omega
theorem str_len (s : ByteArray) : s.data.toList.length = s.size := Array.length_toList
theorem gB_enc (s : ByteArray) (hs : s.size < 9223372036854775808) (tail : List UInt8) : gB (sb s ++ tail) = (s.data.toList, (sb s).length, 0) := by
  have h := gL_enc 1 s.size (by omega) hs (s.data.toList ++ tail) (by rw [List.length_append, str_len]; omega)
  rw [← List.append_assoc] at h
  rw [sb, gB_ok h]
  have e1 : ((zb (s.size : Int) ++ s.data.toList ++ tail).drop (zb (s.size : Int)).length).take s.size = s.data.toList := by
    rw [List.append_assoc, List.drop_left' rfl]
    exact List.take_left' (str_len s)
  rw [e1, List.length_append, str_len]
theorem gS_enc (s : ByteArray) (hs : s.size < 9223372036854775808) (tail : List UInt8) : gS (sb s ++ tail) = (s, (sb s).length, 0) := by
  rw [gS, gB_enc s hs]
theorem gI_enc (n : Int) (h : i64R n) (tail : List UInt8) : gI (zb n ++ tail) = (n, (zb n).length, 0) := gi_zb n h tail
theorem gD_enc (d : List UInt8) (h : d.length = 16) (tail : List UInt8) : gD (d ++ tail) = (d, d.length, 0) := by
  rw [gD, List.take_left' h, h]
/-- Elements, decoded one behind the other. -/
theorem gN_enc {α : Type} {one : List UInt8 → α × Nat × Int} {enc : α → List UInt8} {G : α → Prop} (ho : ∀ x tail, G x → one (enc x ++ tail) = (x, (enc x).length, 0)) (tail : List UInt8) :
    ∀ (l acc : List α) (pre : List UInt8), (∀ x ∈ l, G x) → gN one l.length (pre ++ (l.flatMap enc ++ tail)) pre.length acc = (acc ++ l, pre.length + (l.flatMap enc).length, 0) := by
  intro l
  induction l with
  | nil => intro acc pre _; simp [gN]
  | cons x l ih =>
    intro acc pre hG
    have h1 : one ((pre ++ ((x :: l).flatMap enc ++ tail)).drop pre.length) = (x, (enc x).length, 0) := by
      rw [List.drop_left' rfl, List.flatMap_cons, List.append_assoc]
      exact ho x _ (hG x (by simp))
    rw [List.length_cons, gN_ok h1]
    have h2 := ih (acc ++ [x]) (pre ++ enc x) (fun y hy => hG y (by simp [hy]))
    simp only [List.flatMap_cons, List.append_assoc, List.length_append] at h2 ⊢
    rw [h2]
    simp; omega
theorem gLs_enc {α : Type} {one : List UInt8 → α × Nat × Int} {enc : α → List UInt8} {G : α → Prop} (b : Nat) (hb : 0 < b) (ho : ∀ x tail, G x → one (enc x ++ tail) = (x, (enc x).length, 0)) (tail : List UInt8) (l : List α) (hG : ∀ x ∈ l, G x)
    (hl : l.length < 9223372036854775808) (hm : ∀ x ∈ l, b ≤ (enc x).length) : gLs b one (lb enc l ++ tail) = (l, (lb enc l).length, 0) := by
  have hlen : ∀ l : List α, (∀ x ∈ l, b ≤ (enc x).length) → l.length * b ≤ (l.flatMap enc).length := by
    intro l
    induction l with
    | nil => intro _; simp
    | cons x l ih =>
      intro h
      have h1 := h x (by simp)
      have h2 := ih fun y hy => h y (by simp [hy])
      simp only [List.length_cons, List.flatMap_cons, List.length_append, Nat.add_mul, Nat.one_mul]; omega
  have h := gL_enc b l.length hb hl (l.flatMap enc ++ tail) (by have := hlen l hm; simp only [List.length_append]; omega)
  rw [lb, List.append_assoc, gLs_ok h]
  have := gN_enc ho tail l [] (zb (l.length : Int)) hG
  rw [this]; simp
theorem sb_pos (s : ByteArray) : 0 < (sb s).length := by
  have := zb_pos (s.size : Int)
  simp only [sb, List.length_append]; omega
/-- What is decoded is an encoding. -/
theorem gL_take {k : Nat} (hk : 0 < k) {l : List UInt8} {n : Int} {j : Nat} (h : gL k l = (n, j, 0)) : 0 ≤ n ∧ zb n = l.take j ∧ j + n.toNat * k ≤ l.length := by
  rcases gL_cases k hk l with h1 | h1 | ⟨m, j', h1, h2, _, h3, _⟩
  · rw [h1] at h; simp at h
  · rw [h1] at h; simp at h
  · rw [h1] at h
    simp only [Prod.mk.injEq, and_true] at h
    obtain ⟨rfl, rfl⟩ := h
    exact ⟨by omega, (gi_take h2).1, by simpa using h3⟩
theorem gB_take {l : List UInt8} {s : List UInt8} {j : Nat} (h : gB l = (s, j, 0)) : sb ⟨⟨s⟩⟩ = l.take j ∧ j ≤ l.length := by
  rcases gL_cases 1 (by decide) l with h1 | h1 | ⟨m, j', h1, h2, _, h3, _⟩
  · rw [gB_err (by decide) h1] at h; simp at h
  · rw [gB_err (by decide) h1] at h; simp at h
  · rw [gB_ok h1] at h
    simp only [Prod.mk.injEq, and_true] at h
    obtain ⟨rfl, rfl⟩ := h
    refine ⟨?_, by omega⟩
    have hz : ((⟨⟨(l.drop j').take m⟩⟩ : ByteArray).size : Int) = m := by
      rw [← str_len]; simp; omega
    rw [sb, hz, (gi_take h2).1]
    rw [List.take_add]
theorem gN_take {α : Type} {one : List UInt8 → α × Nat × Int} {enc : α → List UInt8} (ho : ∀ l x u, one l = (x, u, 0) → enc x = l.take u ∧ u ≤ l.length) :
    ∀ (n : Nat) (l : List UInt8) (k : Nat) (acc xs : List α) (j : Nat), k ≤ l.length → gN one n l k acc = (xs, j, 0) → ∃ ys, xs = acc ++ ys ∧ ys.length = n ∧ k ≤ j ∧ j ≤ l.length ∧ ys.flatMap enc = (l.drop k).take (j - k) := by
  intro n
  induction n with
  | zero =>
    intro l k acc xs j hk h
    simp only [gN, Prod.mk.injEq, and_true] at h
    obtain ⟨rfl, rfl⟩ := h
    exact ⟨[], by simp, rfl, Nat.le_refl _, hk, by simp⟩
  | succ n ih =>
    intro l k acc xs j hk h
    rw [gN] at h
    by_cases he : (one (l.drop k)).2.2 ≠ 0
    · rw [if_pos he] at h
      simp only [Prod.mk.injEq] at h
      exact absurd h.2.2 he
    · rw [if_neg he] at h
      obtain ⟨x, u, e, h1⟩ : ∃ x u e, one (l.drop k) = (x, u, e) := ⟨_, _, _, rfl⟩
      rw [h1] at h he
      simp only [ne_eq, Decidable.not_not] at he
      subst he
      obtain ⟨h2, h3⟩ := ho _ _ _ h1
      simp only [List.length_drop] at h3
      obtain ⟨ys, h4, h5, h6, h7, h8⟩ := ih l (k + u) (acc ++ [x]) xs j (by omega) h
      refine ⟨x :: ys, by simpa using h4, by simp [h5], by omega, h7, ?_⟩
      rw [List.flatMap_cons, h2, h8, show j - k = u + (j - (k + u)) by omega, List.take_add, List.drop_drop]
theorem gLs_take {α : Type} {one : List UInt8 → α × Nat × Int} {enc : α → List UInt8} (b : Nat) (hb : 0 < b) (ho : ∀ l x u, one l = (x, u, 0) → enc x = l.take u ∧ u ≤ l.length) {l : List UInt8} {xs : List α} {j : Nat} (h : gLs b one l = (xs, j, 0)) : lb enc xs = l.take j ∧ j ≤ l.length := by
  rcases gL_cases b hb l with h1 | h1 | ⟨m, j', h1, h2, _, h3, _⟩
  · rw [gLs_err (by decide) h1] at h; simp at h
  · rw [gLs_err (by decide) h1] at h; simp at h
  · rw [gLs_ok h1] at h
    obtain ⟨ys, h4, h5, h6, h7, h8⟩ := gN_take ho m l j' [] xs j (by omega) h
    rw [List.nil_append] at h4
    subst h4
    refine ⟨?_, h7⟩
    rw [lb, h5, (gi_take h2).1, h8, ← List.take_add]
    congr 1; omega
end Go.Proofs.Ytacepnbonngbnaa

set_option linter.unusedVariables false
set_option linter.unusedSimpArgs false
namespace Go.Proofs.Ytacepnbonngbnaa
open Go Go.AI Go.Proofs

theorem gN_len {α : Type} (one : List UInt8 → α × Nat × Int) : ∀ (n : Nat) (l : List UInt8) (k : Nat) (acc : List α), (gN one n l k acc).1.length ≤ acc.length + n := by
  intro n
  induction n with
  | zero => intro l k acc; simp [gN]
  | succ n ih =>
    intro l k acc
    rw [gN]; split
    · simp
    · have := ih l (k + (one (l.drop k)).2.1) (acc ++ [(one (l.drop k)).1])
      simp at this ⊢; omega
theorem gLs_len {α : Type} (b : Nat) (hb : 0 < b) (one : List UInt8 → α × Nat × Int) (l : List UInt8) : (gLs b one l).1.length ≤ l.length := by
  rcases gL_cases b hb l with h1 | h1 | ⟨m, j', h1, h2, _, h3, _⟩
  · rw [gLs_err (by decide) h1]; simp
  · rw [gLs_err (by decide) h1]; simp
  · rw [gLs_ok h1]
    have := gN_len one m l j' []
    have h4 : m * 1 ≤ m * b := Nat.mul_le_mul_left m hb
    simp at this; omega
theorem gN_16 : ∀ (n : Nat) (l : List UInt8) (k : Nat) (acc : List (List UInt8)), k + n * 16 ≤ l.length → (∀ d ∈ acc, d.length = 16) → ∀ d ∈ (gN gD n l k acc).1, d.length = 16 := by
  intro n
  induction n with
  | zero => intro l k acc _ h; simpa [gN] using h
  | succ n ih =>
    intro l k acc hl h
    rw [gN_ok (one := gD) (x := (l.drop k).take 16) (u := 16) rfl]
    refine ih l (k + 16) _ (by omega) fun d hd => ?_
    rcases List.mem_append.1 hd with h1 | h1
    · exact h d h1
    · simp at h1; subst h1; simp; omega
theorem gLs_16 (l : List UInt8) : ∀ d ∈ (gLs 16 gD l).1, d.length = 16 := by
  rcases gL_cases 16 (by decide) l with h1 | h1 | ⟨m, j', h1, h2, _, h3, _⟩
  · rw [gLs_err (by decide) h1]; simp
  · rw [gLs_err (by decide) h1]; simp
  · rw [gLs_ok h1]; exact gN_16 m l j' [] h3 (by simp)
theorem gN_rng {α : Type} {one : List UInt8 → α × Nat × Int} {G : α → Prop} (ho : ∀ l x u, one l = (x, u, 0) → G x) : ∀ (n : Nat) (l : List UInt8) (k : Nat) (acc : List α), (∀ x ∈ acc, G x) → ∀ x ∈ (gN one n l k acc).1, G x := by
  intro n
  induction n with
  | zero => intro l k acc h; simpa [gN] using h
  | succ n ih =>
    intro l k acc h
    rw [gN]; split
    · simp
    · rename_i he
      refine ih l _ _ fun x hx => ?_
      rcases List.mem_append.1 hx with h1 | h1
      · exact h x h1
      · simp at h1; subst h1
        obtain ⟨x, u, e, h2⟩ : ∃ x u e, one (l.drop k) = (x, u, e) := ⟨_, _, _, rfl⟩
        rw [h2] at he ⊢
        simp at he; subst he
        exact ho _ _ _ h2
theorem gLs_rng {α : Type} {one : List UInt8 → α × Nat × Int} {G : α → Prop} (ho : ∀ l x u, one l = (x, u, 0) → G x) (b : Nat) (l : List UInt8) : ∀ x ∈ (gLs b one l).1, G x := by
  unfold gLs; split
  · simp
  · exact gN_rng ho _ _ _ _ (by simp)
theorem gI_rng : ∀ l x u, gI l = (x, u, 0) → i64R x := by
  intro l x u h
  rcases GI_cases l with h1 | h1 | ⟨n, j, h1, hn, _⟩
  · rw [gI, h1] at h; simp at h
  · rw [gI, h1] at h; simp at h
  · rw [gI, h1] at h; simp at h; rw [← h.1]; exact hn
theorem GI_eq (b : List UInt8) : ∃ (x : Int) (y : Nat) (z : Int), GI b = .tup [.c (.int .i64 x), .c (.int .i64 y), .c (.int .i64 z)] ∧ gi b 0 0 = (x, y, z) ∧ i64R x ∧ (z = 0 ∨ z = 10 ∨ z = 11) ∧ y ≤ b.length := by
  refine ⟨_, _, _, rfl, rfl, ?_⟩
  rcases GI_cases b with h | h | ⟨n, j, h, hn, _, h2, _⟩ <;> rw [h]
  · exact ⟨⟨by decide, by decide⟩, .inr (.inl rfl), by simp⟩
  · exact ⟨⟨by decide, by decide⟩, .inr (.inr rfl), by simp⟩
  · exact ⟨hn, .inl rfl, h2⟩
theorem GB_eq (b : List UInt8) : ∃ (x : ByteArray) (y : Nat) (z : Int), GB b = .tup [.c (.str x), .c (.int .i64 y), .c (.int .i64 z)] ∧ gB b = (x.data.toList, y, z) ∧ x.size ≤ b.length ∧ (z = 0 ∨ z = 10 ∨ z = 11) ∧ y ≤ b.length := by
  refine ⟨_, _, _, rfl, rfl, ?_⟩
  rcases GB_cases b with h | h | ⟨n, j, h, h1, _, h2, _⟩ <;> rw [h]
  · exact ⟨by simp [ByteArray.size], .inr (.inl rfl), by simp⟩
  · exact ⟨by simp [ByteArray.size], .inr (.inr rfl), by simp⟩
  · exact ⟨h1, .inl rfl, h2⟩
theorem gN_e {α : Type} {one : List UInt8 → α × Nat × Int} (ho : ∀ l, ((one l).2.2 = 0 ∨ (one l).2.2 = 10 ∨ (one l).2.2 = 11)) : ∀ (n : Nat) (l : List UInt8) (k : Nat) (acc : List α), ((gN one n l k acc).2.2 = 0 ∨ (gN one n l k acc).2.2 = 10 ∨ (gN one n l k acc).2.2 = 11) := by
  intro n
  induction n with
  | zero => intro l k acc; simp [gN]
  | succ n ih =>
    intro l k acc
    rw [gN]; split
    · exact ho _
    · exact ih _ _ _
theorem gLs_e {α : Type} {one : List UInt8 → α × Nat × Int} (ho : ∀ l, ((one l).2.2 = 0 ∨ (one l).2.2 = 10 ∨ (one l).2.2 = 11)) (b : Nat) (hb : 0 < b) (l : List UInt8) : ((gLs b one l).2.2 = 0 ∨ (gLs b one l).2.2 = 10 ∨ (gLs b one l).2.2 = 11) := by
  rcases gL_cases b hb l with h1 | h1 | ⟨m, j', h1, h2, _, h3, _⟩
  · rw [gLs_err (by decide) h1]; exact .inr (.inl rfl)
  · rw [gLs_err (by decide) h1]; exact .inr (.inr rfl)
  · rw [gLs_ok h1]; exact gN_e ho _ _ _ _
theorem gI_e (l : List UInt8) : ((gI l).2.2 = 0 ∨ (gI l).2.2 = 10 ∨ (gI l).2.2 = 11) := by
  obtain ⟨x, y, z, _, h, _, h2, _⟩ := GI_eq l
  rw [gI, h]; exact h2
theorem gS_e (l : List UInt8) : ((gS l).2.2 = 0 ∨ (gS l).2.2 = 10 ∨ (gS l).2.2 = 11) := by
  obtain ⟨x, y, z, _, h, _, h2, _⟩ := GB_eq l
  rw [gS, h]; exact h2
/-- A decoded list. -/
theorem AVL_eq {α : Type} {one : List UInt8 → α × Nat × Int} {enc : α → List UInt8} {G : α → Prop} (rows : List α → List (List AC)) (sz b : Nat) (hb : 0 < b) (l : List UInt8) (ho : ∀ l x u, one l = (x, u, 0) → enc x = l.take u ∧ u ≤ l.length) (hG : ∀ l x u, one l = (x, u, 0) → G x) (he : ∀ l, ((one l).2.2 = 0 ∨ (one l).2.2 = 10 ∨ (one l).2.2 = 11)) :
    ∃ (xs : List α) (y : Nat) (z : Int), AVL rows sz (gLs b one l) = .tup [.c (.list 0 sz (rows xs)), .c (.int .i64 y), .c (.int .i64 z)] ∧ gLs b one l = (xs, y, z) ∧ xs.length ≤ l.length ∧ (∀ x ∈ xs, G x) ∧ (z = 0 ∨ z = 10 ∨ z = 11) ∧ (z = 0 → lb enc xs = l.take y ∧ y ≤ l.length) :=
  ⟨_, _, _, rfl, rfl, gLs_len b hb one l, gLs_rng hG b l, gLs_e he b hb l, fun h => gLs_take b hb ho (Prod.ext rfl (Prod.ext rfl h))⟩
theorem gI_take {l : List UInt8} {x : Int} {u : Nat} (h : gI l = (x, u, 0)) : zb x = l.take u ∧ u ≤ l.length := gi_take h
theorem gS_take {l : List UInt8} {x : ByteArray} {u : Nat} (h : gS l = (x, u, 0)) : sb x = l.take u ∧ u ≤ l.length := by
  obtain ⟨s, j, e, h2⟩ : ∃ s j e, gB l = (s, j, e) := ⟨_, _, _, rfl⟩
  rw [gS, h2] at h
  simp only [Prod.mk.injEq] at h
  obtain ⟨rfl, rfl, rfl⟩ := h
  exact gB_take h2
theorem AVI_eq (l : List UInt8) : ∃ (xs : List Int) (y : Nat) (z : Int), AVL rowsI 1 (gLs 1 gI l) = .tup [.c (.list 0 1 (rowsI xs)), .c (.int .i64 y), .c (.int .i64 z)] ∧ gLs 1 gI l = (xs, y, z) ∧ xs.length ≤ l.length ∧ (∀ x ∈ xs, i64R x) ∧ (z = 0 ∨ z = 10 ∨ z = 11) ∧ (z = 0 → lb zb xs = l.take y ∧ y ≤ l.length) :=
  AVL_eq rowsI 1 1 (by decide) l (fun _ _ _ h => gI_take h) gI_rng gI_e
theorem AVS_eq (l : List UInt8) : ∃ (xs : List ByteArray) (y : Nat) (z : Int), AVL rowsS 1 (gLs 1 gS l) = .tup [.c (.list 0 1 (rowsS xs)), .c (.int .i64 y), .c (.int .i64 z)] ∧ gLs 1 gS l = (xs, y, z) ∧ xs.length ≤ l.length ∧ (∀ x ∈ xs, True) ∧ (z = 0 ∨ z = 10 ∨ z = 11) ∧ (z = 0 → lb sb xs = l.take y ∧ y ≤ l.length) :=
  AVL_eq rowsS 1 1 (by decide) l (fun _ _ _ h => gS_take h) (fun _ _ _ _ => trivial) gS_e
theorem AVG_eq (l : List UInt8) : ∃ (xs : List (List UInt8)) (y : Nat) (z : Int), AVL rowsG 16 (gLs 16 gD l) = .tup [.c (.list 0 16 (rowsG xs)), .c (.int .i64 y), .c (.int .i64 z)] ∧ gLs 16 gD l = (xs, y, z) ∧ xs.length ≤ l.length ∧ (∀ x ∈ xs, x.length = 16) ∧ (z = 0 ∨ z = 10 ∨ z = 11) ∧ (z = 0 → lb id xs = l.take y ∧ y ≤ l.length) := by
  refine ⟨_, _, _, rfl, rfl, gLs_len 16 (by decide) gD l, gLs_16 l, gLs_e (fun _ => .inl rfl) 16 (by decide) l, fun h => ?_⟩
  have h0 : gLs 16 gD l = ((gLs 16 gD l).1, (gLs 16 gD l).2.1, 0) := Prod.ext rfl (Prod.ext rfl h)
  have hl := gLs_16 l
  rcases gL_cases 16 (by decide) l with h1 | h1 | ⟨m, j', h1, h2, _, h3, _⟩
  · rw [gLs_err (by decide) h1] at h; simp at h
  · rw [gLs_err (by decide) h1] at h; simp at h
  · rw [gLs_ok h1] at h0 ⊢
    have key : ∀ (n : Nat) (k : Nat) (acc : List (List UInt8)), k + n * 16 ≤ l.length → gN gD n l k acc = ((gN gD n l k acc).1, k + n * 16, 0) ∧ ∃ ys, (gN gD n l k acc).1 = acc ++ ys ∧ ys.length = n ∧ ys.flatMap id = (l.drop k).take (n * 16) := by
      intro n
      induction n with
      | zero => intro k acc _; exact ⟨by simp [gN], [], by simp [gN], rfl, by simp⟩
      | succ n ih =>
        intro k acc hk
        rw [gN_ok (one := gD) (x := (l.drop k).take 16) (u := 16) rfl]
        obtain ⟨e1, ys, e2, e3, e4⟩ := ih (k + 16) (acc ++ [(l.drop k).take 16]) (by omega)
        refine ⟨by rw [e1]; simp only [Prod.mk.injEq, and_true, true_and]; omega, (l.drop k).take 16 :: ys, by rw [e2]; simp, by simp [e3], ?_⟩
        rw [List.flatMap_cons, e4, show (n + 1) * 16 = 16 + n * 16 by omega, List.take_add, List.drop_drop]
        rfl
    obtain ⟨e1, ys, e2, e3, e4⟩ := key m j' [] h3
    have e5 : (gN gD m l j' []).2.1 = j' + m * 16 := by rw [e1]
    rw [e5]
    refine ⟨?_, h3⟩
    rw [e2, List.nil_append, lb, e3, e4, (gi_take h2).1, ← List.take_add]
theorem gN_nil {α : Type} {one : List UInt8 → α × Nat × Int} : ∀ (n : Nat) (l : List UInt8) (k : Nat) (acc : List α), (gN one n l k acc).2.2 ≠ 0 → (gN one n l k acc).1 = [] := by
  intro n
  induction n with
  | zero => intro l k acc h; simp [gN] at h
  | succ n ih =>
    intro l k acc h
    rw [gN] at h ⊢
    split at h
    · rename_i he; rw [if_pos he]
    · rename_i he; rw [if_neg he]; exact ih _ _ _ h
theorem gLs_nil {α : Type} {one : List UInt8 → α × Nat × Int} {b : Nat} {l : List UInt8} (h : (gLs b one l).2.2 ≠ 0) : (gLs b one l).1 = [] := by
  unfold gLs at h ⊢
  split at h
  · rename_i he; rw [if_pos he]
  · rename_i he; rw [if_neg he]; exact gN_nil _ _ _ _ h
theorem total_flat (l : List ByteArray) : total l ≤ (l.flatMap sb).length := by
  induction l with
  | nil => simp [total]
  | cons x l ih =>
    have e : total (x :: l) = x.size + total l := by simp [total]
    rw [e, List.flatMap_cons, List.length_append]
    have : (sb x).length = (zb (x.size : Int)).length + x.size := by rw [sb, List.length_append, str_len]
    omega
theorem total_dec {l : List UInt8} {xs : List ByteArray} {y : Nat} {z : Int} (h : gLs 1 gS l = (xs, y, z)) (hz : z = 0 → lb sb xs = l.take y ∧ y ≤ l.length) : total xs ≤ l.length := by
  by_cases e : z = 0
  · have h1 := congrArg List.length (hz e).1
    have h2 := total_flat xs
    simp only [lb, List.length_append, List.length_take] at h1
    omega
  · have : xs = [] := by
      have := gLs_nil (b := 1) (one := gS) (l := l) (by rw [h]; exact e)
      rwa [h] at this
    subst this; simp [total]
end Go.Proofs.Ytacepnbonngbnaa

set_option linter.unusedVariables false
set_option linter.unusedSimpArgs false
namespace Go.Proofs.Ytacepnbonngbnaa
open Go Go.AI Go.Proofs

theorem GB_enc (s : ByteArray) (hs : s.size ≤ 1000000) (t : List UInt8) : GB (sb s ++ t) = .tup [.c (.str s), .c (.int .i64 (sb s).length), .c (.int .i64 0)] := by
  unfold GB; rw [gB_enc s (by omega) t]
theorem AVI_enc (l : List Int) (hl : l.length ≤ 1000000) (hr : ∀ x ∈ l, i64R x) (t : List UInt8) : AVL rowsI 1 (gLs 1 gI (lb zb l ++ t)) = .tup [.c (.list 0 1 (rowsI l)), .c (.int .i64 (lb zb l).length), .c (.int .i64 0)] := by
  rw [gLs_enc (G := i64R) 1 (by decide) (fun x tail h => gI_enc x h tail) t l hr (by omega) (fun x _ => zb_pos x)]; rfl
theorem AVS_enc (l : List ByteArray) (hl : l.length ≤ 1000000) (hr : ∀ x ∈ l, x.size ≤ 1000000) (t : List UInt8) : AVL rowsS 1 (gLs 1 gS (lb sb l ++ t)) = .tup [.c (.list 0 1 (rowsS l)), .c (.int .i64 (lb sb l).length), .c (.int .i64 0)] := by
  rw [gLs_enc (G := fun s : ByteArray => s.size ≤ 1000000) 1 (by decide) (fun x tail h => gS_enc x (by omega) tail) t l hr (by omega) (fun x _ => sb_pos x)]; rfl
theorem AVG_enc (l : List (List UInt8)) (hl : l.length ≤ 1000000) (hr : ∀ x ∈ l, x.length = 16) (t : List UInt8) : AVL rowsG 16 (gLs 16 gD (lb id l ++ t)) = .tup [.c (.list 0 16 (rowsG l)), .c (.int .i64 (lb id l).length), .c (.int .i64 0)] := by
  rw [gLs_enc (enc := id) (G := fun d : List UInt8 => d.length = 16) 16 (by decide) (fun x tail h => gD_enc x h tail) t l hr (by omega) (fun x hx => by rw [id, hr x hx]; exact Nat.le_refl _)]; rfl
theorem len_zb (n : Nat) (h : n ≤ 1000000000) : (zb (n : Int)).length ≤ 10 := zb_len n (by omega) (by omega)
theorem len_lbI (l : List Int) (hl : l.length ≤ 1000000) (hr : ∀ x ∈ l, i64R x) : (lb zb l).length ≤ 10 + 10 * l.length := by
  have h1 := len_zb l.length (by omega)
  have h2 := flat_len zb 10 l (fun x hx => zb_len x (hr x hx).1 (hr x hx).2)
  simp only [lb, List.length_append]; omega
theorem len_lbG (l : List (List UInt8)) (hl : l.length ≤ 1000000) (hr : ∀ x ∈ l, x.length = 16) : (lb id l).length ≤ 10 + 16 * l.length := by
  have h1 := len_zb l.length (by omega)
  have h2 := flat_len id 16 l (fun x hx => by rw [id, hr x hx]; exact Nat.le_refl _)
  simp only [lb, List.length_append]; omega
theorem len_flatS : ∀ (l : List ByteArray), (∀ x ∈ l, x.size ≤ 1000000) → (l.flatMap sb).length ≤ total l + 10 * l.length
  | [], _ => by simp [total]
  | x :: l, h => by
    have ih := len_flatS l fun y hy => h y (by simp [hy])
    have hx := sb_len x (h x (by simp))
    have e : total (x :: l) = x.size + total l := by simp [total]
    rw [List.flatMap_cons, List.length_append, List.length_cons, e]; omega
theorem len_lbS (l : List ByteArray) (hl : l.length ≤ 1000000) (hr : ∀ x ∈ l, x.size ≤ 1000000) : (lb sb l).length ≤ 10 + total l + 10 * l.length := by
  have h1 := len_zb l.length (by omega)
  have h2 := len_flatS l hr
  simp only [lb, List.length_append]; omega
theorem take_all (l : List UInt8) : (encB l).take l.length = encB l := List.take_of_length_le (by rw [encB_len]; exact Nat.le_refl _)
end Go.Proofs.Ytacepnbonngbnaa

set_option linter.unusedVariables false
set_option linter.unusedSimpArgs false
namespace Go.Proofs.Ytacepnbonngbnaa
open Go Go.AI Go.Proofs

/-! ### Proper prefixes -/
theorem gL_head_short (k : Nat) (n : Nat) (hn : n ≤ 1000000000) (rest : List UInt8) (i : Nat) (hi : i < (zb (n : Int)).length) : gL k ((zb (n : Int) ++ rest).take i) = (0, 0, 10) := by
  rw [List.take_append_of_le_length (by omega)]
  exact gL_err (by decide) (gi_short n ⟨by omega, by omega⟩ i hi)
theorem take_over (a b : List UInt8) (i : Nat) (h : a.length ≤ i) : (a ++ b).take i = a ++ b.take (i - a.length) := by
  rw [List.take_append, List.take_of_length_le h]
theorem gB_short (s : ByteArray) (hs : s.size ≤ 1000000) (i : Nat) (hi : i < (sb s).length) : gB ((sb s).take i) = ([], 0, 10) := by
  refine gB_err (by decide) ?_
  rw [sb]
  by_cases h : i < (zb (s.size : Int)).length
  · exact gL_head_short 1 s.size (by omega) _ i h
  · rw [take_over _ _ _ (by omega)]
    refine gL_enc_short 1 s.size (by omega) (by omega) _ ?_
    rw [sb, List.length_append, str_len] at hi
    simp; omega
theorem gN_short {α : Type} {one : List UInt8 → α × Nat × Int} {enc : α → List UInt8} {G : α → Prop} (ho : ∀ x tail, G x → one (enc x ++ tail) = (x, (enc x).length, 0)) (hs : ∀ x r, G x → r < (enc x).length → ∃ x0 u0, one ((enc x).take r) = (x0, u0, 10)) :
    ∀ (l acc : List α) (pre : List UInt8) (r : Nat), (∀ x ∈ l, G x) → r < (l.flatMap enc).length → gN one l.length (pre ++ (l.flatMap enc).take r) pre.length acc = ([], 0, 10) := by
  intro l
  induction l with
  | nil => intro acc pre r _ h; simp at h
  | cons x l ih =>
    intro acc pre r hG hr
    rw [List.flatMap_cons] at hr ⊢
    by_cases h : r < (enc x).length
    · obtain ⟨x0, u0, h1⟩ := hs x r (hG x (by simp)) h
      rw [List.length_cons]
      refine gN_err (x := x0) (u := u0) ?_ (by decide)
      rw [List.drop_left' rfl, List.take_append_of_le_length (by omega)]
      exact h1
    · rw [take_over _ _ _ (by omega), List.length_cons]
      rw [gN_ok (x := x) (u := (enc x).length) (by rw [List.drop_left' rfl]; exact ho x _ (hG x (by simp)))]
      have h2 := ih (acc ++ [x]) (pre ++ enc x) (r - (enc x).length) (fun y hy => hG y (by simp [hy])) (by rw [List.length_append] at hr; omega)
      rw [List.append_assoc, List.length_append] at h2
      exact h2
theorem gLs_short {α : Type} {one : List UInt8 → α × Nat × Int} {enc : α → List UInt8} {G : α → Prop} (ho : ∀ x tail, G x → one (enc x ++ tail) = (x, (enc x).length, 0)) (hs : ∀ x r, G x → r < (enc x).length → ∃ x0 u0, one ((enc x).take r) = (x0, u0, 10))
    (l : List α) (hl : l.length ≤ 1000000) (hG : ∀ x ∈ l, G x) (i : Nat) (hi : i < (lb enc l).length) : gLs 1 one ((lb enc l).take i) = ([], 0, 10) := by
  rw [lb] at hi ⊢
  by_cases h : i < (zb (l.length : Int)).length
  · exact gLs_err (by decide) (gL_head_short 1 l.length (by omega) _ i h)
  · rw [take_over _ _ _ (by omega)]
    by_cases h2 : ((l.flatMap enc).take (i - (zb (l.length : Int)).length)).length < l.length
    · exact gLs_err (by decide) (gL_enc_short 1 l.length (by omega) (by omega) _ (by omega))
    · rw [gLs_ok (gL_enc 1 l.length (by omega) (by omega) _ (by omega))]
      exact gN_short ho hs l [] _ _ hG (by rw [List.length_append] at hi; omega)
theorem flat16 : ∀ (l : List (List UInt8)), (∀ x ∈ l, x.length = 16) → (l.flatMap id).length = l.length * 16
  | [], _ => rfl
  | x :: l, h => by
    have ih := flat16 l fun y hy => h y (by simp [hy])
    have hx := h x (by simp)
    rw [List.flatMap_cons, List.length_append, ih, List.length_cons, id, hx]; omega
theorem gLsG_short (l : List (List UInt8)) (hl : l.length ≤ 1000000) (hG : ∀ x ∈ l, x.length = 16) (i : Nat) (hi : i < (lb id l).length) : gLs 16 gD ((lb id l).take i) = ([], 0, 10) := by
  have hf := flat16 l hG
  rw [lb] at hi ⊢
  refine gLs_err (by decide) ?_
  by_cases h : i < (zb (l.length : Int)).length
  · exact gL_head_short 16 l.length (by omega) _ i h
  · rw [take_over _ _ _ (by omega)]
    refine gL_enc_short 16 l.length (by omega) (by omega) _ ?_
    rw [List.length_append] at hi
    rw [List.length_take]; omega
theorem cut0 (n : Int) (hn : i64R n) (i : Nat) (hi : i < (zb n).length) : RunsTo Try.prog 24 [.c (.list 0 1 (encB ((zb n).take i)))] [] (.tup [.c (.int .i64 0), .c (.int .i64 0), .c (.int .i64 10)]) [] := by
  have hl := zb_len n hn.1 hn.2
  have h := T24 ((zb n).take i) (by simp; omega)
  have e : GI ((zb n).take i) = .tup [.c (.int .i64 0), .c (.int .i64 0), .c (.int .i64 10)] := by unfold GI; rw [gi_short n hn i hi]; rfl
  rwa [e] at h
theorem cut1 (s : ByteArray) (hs : s.size ≤ 100000) (i : Nat) (hi : i < (sb s).length) : RunsTo Try.prog 26 [.c (.list 0 1 (encB ((sb s).take i)))] [] (.tup [.c (.str ⟨⟨[]⟩⟩), .c (.int .i64 0), .c (.int .i64 10)]) [] := by
  have hl := sb_len s (by omega)
  have h := T26 ((sb s).take i) (by simp; omega)
  have e : GB ((sb s).take i) = .tup [.c (.str ⟨⟨[]⟩⟩), .c (.int .i64 0), .c (.int .i64 10)] := by unfold GB; rw [gB_short s (by omega) i hi]; rfl
  rwa [e] at h
theorem cut2 (l : List Int) (hl : l.length ≤ 50000) (hr : ∀ x ∈ l, i64R x) (i : Nat) (hi : i < (lb zb l).length) : RunsTo Try.prog 28 [.c (.list 0 1 (encB ((lb zb l).take i)))] [] (.tup [.c (.list 0 1 []), .c (.int .i64 0), .c (.int .i64 10)]) [] := by
  have hl2 := len_lbI l (by omega) hr
  have h := T28 ((lb zb l).take i) (by simp; omega)
  have e : AVL rowsI 1 (gLs 1 gI ((lb zb l).take i)) = .tup [.c (.list 0 1 []), .c (.int .i64 0), .c (.int .i64 10)] := by
    rw [gLs_short (G := i64R) (fun x tail h => gI_enc x h tail) (fun x r h hr => ⟨0, 0, gi_short x h r hr⟩) l (by omega) hr i hi]; rfl
  rwa [e] at h
theorem cut3 (l : List ByteArray) (hl : l.length ≤ 50000) (hr : ∀ x ∈ l, x.size ≤ 100000) (ht : total l ≤ 100000) (i : Nat) (hi : i < (lb sb l).length) : RunsTo Try.prog 31 [.c (.list 0 1 (encB ((lb sb l).take i)))] [] (.tup [.c (.list 0 1 []), .c (.int .i64 0), .c (.int .i64 10)]) [] := by
  have hl2 := len_lbS l (by omega) (fun x hx => by have := hr x hx; omega)
  have h := T31 ((lb sb l).take i) (by simp; omega)
  have e : AVL rowsS 1 (gLs 1 gS ((lb sb l).take i)) = .tup [.c (.list 0 1 []), .c (.int .i64 0), .c (.int .i64 10)] := by
    rw [gLs_short (G := fun s : ByteArray => s.size ≤ 100000) (fun x tail h => gS_enc x (by omega) tail) (fun x r h hr => ⟨⟨⟨[]⟩⟩, 0, by rw [gS, gB_short x (by omega) r hr]⟩) l (by omega) hr i hi]; rfl
  rwa [e] at h
theorem cut4 (l : List (List UInt8)) (hl : l.length ≤ 50000) (hr : ∀ x ∈ l, x.length = 16) (i : Nat) (hi : i < (lb id l).length) : RunsTo Try.prog 34 [.c (.list 0 1 (encB ((lb id l).take i)))] [] (.tup [.c (.list 0 16 []), .c (.int .i64 0), .c (.int .i64 10)]) [] := by
  have hl2 := len_lbG l (by omega) hr
  have h := T34 ((lb id l).take i) (by simp; omega)
  have e : AVL rowsG 16 (gLs 16 gD ((lb id l).take i)) = .tup [.c (.list 0 16 []), .c (.int .i64 0), .c (.int .i64 10)] := by
    rw [gLsG_short l (by omega) hr i hi]; rfl
  rwa [e] at h
end Go.Proofs.Ytacepnbonngbnaa
