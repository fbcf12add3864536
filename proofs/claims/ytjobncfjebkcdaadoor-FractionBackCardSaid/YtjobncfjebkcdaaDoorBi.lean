/- Where the reference's Parse finds the slash (plain). -/
import Derived.Test.YtjobncfjebkcdaaDoorBh
namespace Go.Proofs.YtjobncfjebkcdaaDoor
open Go Go.RowKit Go.Shelf
set_option linter.unusedSimpArgs false

theorem atF_le (t : List UInt8) : atF t ≤ t.length := (List.takeWhile_sublist _).length_le
theorem atF_lt : ∀ {t : List UInt8} {j : Nat} (_ : j < atF t) (hl : j < t.length), t[j] ≠ 47
  | [], j, _, hl => by simp at hl
  | c :: r, j, h, hl => by
    by_cases hc : c = 47
    · subst hc; simp [atF] at h
    · have e : atF (c :: r) = atF r + 1 := by simp [atF, hc]
      cases j with
      | zero => exact hc
      | succ j =>
        simp only [List.getElem_cons_succ]
        exact atF_lt (by omega) (by simpa using hl)
theorem atF_at : ∀ (t : List UInt8) (h : atF t < t.length), t[atF t] = 47
  | [], h => by simp at h
  | c :: r, h => by
    by_cases hc : c = 47
    · subst hc; simp [atF]
    · have e : atF (c :: r) = atF r + 1 := by simp [atF, hc]
      have hr : atF r < r.length := by rw [e] at h; simpa using h
      have := atF_at r hr
      simp only [e, List.getElem_cons_succ]
      exact this
/-- the place after k bytes -/
def aK (t : List UInt8) (k : Nat) : Nat := if atF t < k then atF t else t.length
theorem aK_zero (t : List UInt8) : aK t 0 = t.length := by unfold aK; rw [if_neg (by omega)]
theorem aK_full (t : List UInt8) : aK t t.length = atF t := by
  have := atF_le t
  unfold aK
  split <;> omega
theorem aK_le (t : List UInt8) (k : Nat) : aK t k ≤ t.length := by
  have := atF_le t
  unfold aK
  split <;> omega
theorem aK_step {t : List UInt8} {k : Nat} (h : k < t.length) : aK t (k + 1) = if t[k] = 47 ∧ aK t k = t.length then k else aK t k := by
  have hle := atF_le t
  rcases Nat.lt_trichotomy (atF t) k with h1 | h1 | h1
  · have e1 : aK t k = atF t := by unfold aK; rw [if_pos h1]
    have e2 : aK t (k + 1) = atF t := by unfold aK; rw [if_pos (by omega)]
    rw [e1, e2, if_neg (by omega)]
  · have e1 : aK t k = t.length := by unfold aK; rw [if_neg (by omega)]
    have e2 : aK t (k + 1) = k := by unfold aK; rw [if_pos (by omega), h1]
    have h47 : t[k] = 47 := by have := atF_at t (by omega); simp only [h1] at this; exact this
    rw [e1, e2, if_pos ⟨h47, rfl⟩]
  · have e1 : aK t k = t.length := by unfold aK; rw [if_neg (by omega)]
    have e2 : aK t (k + 1) = t.length := by unfold aK; rw [if_neg (by omega)]
    rw [e1, e2, if_neg (fun hh => atF_lt h1 h hh.1)]
theorem wholeGo_lt : ∀ (l : List UInt8) (n : Int) (k : Nat), 0 ≤ n → n < 10 ^ k → wholeGo n l = -1 ∨ (0 ≤ wholeGo n l ∧ wholeGo n l < 10 ^ (k + l.length))
  | [], n, k, h0, h1 => .inr ⟨h0, h1⟩
  | c :: r, n, k, h0, h1 => by
    rw [wholeGo]
    split
    · rename_i hd
      unfold dgB at hd
      simp only [Bool.and_eq_true, decide_eq_true_eq] at hd
      have := wholeGo_lt r (10 * n + ((c.toNat : Int) - 48)) (k + 1) (by omega) (by rw [Int.pow_succ]; omega)
      rw [List.length_cons, show k + (r.length + 1) = k + 1 + r.length from by omega]
      exact this
    · exact .inl rfl
theorem wholeF_le (l : List UInt8) : -1 ≤ wholeF l ∧ wholeF l < 10000000000 := by
  unfold wholeF
  split
  · omega
  · rename_i h
    rcases wholeGo_lt l 0 0 (by omega) (by decide) with h1 | ⟨h1, h2⟩
    · omega
    · have h3 : (10 : Int) ^ (0 + l.length) ≤ 10 ^ 10 := by
        have : (10 : Nat) ^ (0 + l.length) ≤ 10 ^ 10 := Nat.pow_le_pow_right (by omega) (by omega)
        exact_mod_cast this
      omega
end Go.Proofs.YtjobncfjebkcdaaDoor
