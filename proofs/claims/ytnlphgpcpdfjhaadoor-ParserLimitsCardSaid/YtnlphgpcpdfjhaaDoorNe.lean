/- Plain laws: nested terms, many arguments, long bodies, long descriptions. -/
import Derived.Test.YtnlphgpcpdfjhaaDoorVp
import Derived.KernelRfl
namespace Go.Proofs.YtnlphgpcpdfjhaaDoor

/-- a text several times -/
def repL (s : List UInt8) : Nat → List UInt8
  | 0 => []
  | n + 1 => repL s n ++ s
theorem repL_front (s : List UInt8) : ∀ n, repL s (n + 1) = s ++ repL s n
  | 0 => by simp [repL]
  | n + 1 => by
    have h := repL_front s n
    rw [show repL s (n + 1 + 1) = repL s (n + 1) ++ s from rfl, h, List.append_assoc, show repL s n ++ s = repL s (n + 1) from rfl, h]
theorem repL_len (s : List UInt8) : ∀ n, (repL s n).length = n * s.length
  | 0 => by simp [repL]
  | n + 1 => by rw [repL, List.length_append, repL_len s n, Nat.succ_mul]

def nestL (k : Nat) : List UInt8 := repL [102, 40] k ++ [97] ++ repL [41] k
def nestC (k : Nat) : Bool :=
  match termRF (nestL k) with
  | .ok (.mk nm _) => decide (k < 4) && nm == (if k = 0 then [97] else [102])
  | .err p e => decide (4 ≤ k) && p == 8 && e == 3
theorem nestC_all : ∀ k < 40, nestC k = true := by decide +kernel
theorem nest_lo {k : Nat} (h : k < 4) : ∃ l, termRF (nestL k) = .ok (.mk (if k = 0 then [97] else [102]) l) := by
  have hc := nestC_all k (by omega)
  unfold nestC at hc
  cases hx : termRF (nestL k) with
  | err p e =>
    rw [hx] at hc
    simp only [Bool.and_eq_true, decide_eq_true_eq] at hc
    omega
  | ok t =>
    cases t with
    | mk nm l =>
    rw [hx] at hc
    simp only [Bool.and_eq_true, beq_iff_eq] at hc
    exact ⟨l, by rw [hc.2]⟩
theorem nest_hi {k : Nat} (h : 4 ≤ k) (h2 : k < 40) : termRF (nestL k) = .err 8 3 := by
  have hc := nestC_all k h2
  unfold nestC at hc
  cases hx : termRF (nestL k) with
  | err p e =>
    rw [hx] at hc
    simp only [Bool.and_eq_true, beq_iff_eq] at hc
    rw [hc.1.2, hc.2]
  | ok t =>
    cases t with
    | mk nm l =>
    rw [hx] at hc
    simp only [Bool.and_eq_true, decide_eq_true_eq] at hc
    omega

def argsL (n : Nat) : List UInt8 := [112, 40] ++ repL [97, 44] (n - 1) ++ repL [97] (min n 1) ++ [41, 46]
def argsC (n : Nat) : Bool :=
  match ruleRF (argsL n) with
  | .ok x => (match x.head with | .mk nm l => decide (1 ≤ n) && decide (n ≤ 4) && nm == [112] && l.length == n)
  | .err p e => (n == 0 && p == 2 && e == 1) || (decide (4 < n) && p == 10 && e == 5)
theorem argsC_all : ∀ n < 40, argsC n = true := by decide +kernel
theorem args_zero : ruleRF (argsL 0) = .err 2 1 := by kernel_rfl
theorem args_lo {n : Nat} (h1 : 1 ≤ n) (h : n ≤ 4) : ∃ x l, ruleRF (argsL n) = .ok x ∧ x.head = .mk [112] l ∧ l.length = n := by
  have hc := argsC_all n (by omega)
  unfold argsC at hc
  cases hx : ruleRF (argsL n) with
  | err p e =>
    rw [hx] at hc
    simp only [Bool.or_eq_true, Bool.and_eq_true, decide_eq_true_eq, beq_iff_eq] at hc
    omega
  | ok x =>
    rw [hx] at hc
    cases hh : x.head with
    | mk nm l =>
    simp only [hh, Bool.and_eq_true, beq_iff_eq] at hc
    exact ⟨x, l, rfl, by rw [hh, hc.1.2], hc.2⟩
theorem args_hi {n : Nat} (h : 4 < n) (h2 : n < 40) : ruleRF (argsL n) = .err 10 5 := by
  have hc := argsC_all n h2
  unfold argsC at hc
  cases hx : ruleRF (argsL n) with
  | err p e =>
    rw [hx] at hc
    simp only [Bool.or_eq_true, Bool.and_eq_true, decide_eq_true_eq, beq_iff_eq] at hc
    rcases hc with hc | hc
    · omega
    · rw [hc.1.2, hc.2]
  | ok x =>
    rw [hx] at hc
    cases hh : x.head with
    | mk nm l =>
    simp only [hh, Bool.and_eq_true, decide_eq_true_eq] at hc
    omega

def bodyL (n : Nat) : List UInt8 := (if n = 0 then [112] else [112, 32, 105, 102, 32] ++ repL [113, 32, 97, 110, 100, 32] (n - 1) ++ [113]) ++ [46]
def bodyC (n : Nat) : Bool :=
  match ruleRF (bodyL n) with
  | .ok x => decide (n ≤ 8) && x.body.length == n
  | .err p e => decide (8 < n) && p == 53 && e == 2
theorem bodyC_all : ∀ n < 40, bodyC n = true := by decide +kernel
theorem body_lo {n : Nat} (h : n ≤ 8) : ∃ x, ruleRF (bodyL n) = .ok x ∧ x.body.length = n := by
  have hc := bodyC_all n (by omega)
  unfold bodyC at hc
  cases hx : ruleRF (bodyL n) with
  | err p e =>
    rw [hx] at hc
    simp only [Bool.and_eq_true, decide_eq_true_eq] at hc
    omega
  | ok x =>
    rw [hx] at hc
    simp only [Bool.and_eq_true, beq_iff_eq] at hc
    exact ⟨x, rfl, hc.2⟩
theorem body_hi {n : Nat} (h : 8 < n) (h2 : n < 40) : ruleRF (bodyL n) = .err 53 2 := by
  have hc := bodyC_all n h2
  unfold bodyC at hc
  cases hx : ruleRF (bodyL n) with
  | err p e =>
    rw [hx] at hc
    simp only [Bool.and_eq_true, beq_iff_eq] at hc
    rw [hc.1.2, hc.2]
  | ok x =>
    rw [hx] at hc
    simp only [Bool.and_eq_true, decide_eq_true_eq] at hc
    omega

/-- the tokens of 'p.' several times -/
def pToks : Nat → Nat → List Tok
  | 0, off => [⟨0, [], off⟩]
  | n + 1, off => ⟨1, [112], off⟩ :: ⟨4, [46], off + 1⟩ :: pToks n (off + 2)
theorem lex_p : ∀ (n f off : Nat), 2 * n < f → lexGo f off (repL [112, 46] n) = .ok (pToks n off) := by
  intro n
  induction n with
  | zero =>
    intro f off h
    cases f with
    | zero => omega
    | succ f => exact lexGo_nil f off
  | succ n ih =>
    intro f off h
    rw [repL_front]
    match f, h with
    | f + 2, h =>
      have ht : (112 :: 46 :: repL [112, 46] n : List UInt8).takeWhile (fun c => runB (bInt c)) = [112] := by
        rw [List.takeWhile_cons_of_pos (by rfl), List.takeWhile_cons_of_neg (by decide)]
      have hd : (112 :: 46 :: repL [112, 46] n : List UInt8).dropWhile (fun c => runB (bInt c)) = 46 :: repL [112, 46] n := by
        rw [List.dropWhile_cons_of_pos (by rfl), List.dropWhile_cons_of_neg (by decide)]
      show lexGo (f + 1 + 1) off (112 :: 46 :: repL [112, 46] n) = _
      rw [lexGo_run _ _ _ _ (by rfl) (by rfl) (by rfl) (by rw [ht]; rfl), ht, hd]
      rw [lexGo_sym f _ 46 _ (by rfl) (by rfl) (by rfl) (by rfl), List.length_singleton, ih f _ (by omega)]
      rfl
def pRule : Ru := ⟨.mk [112] [], []⟩
theorem rule_p (off : Nat) (r : List Tok) : ruleF (⟨1, [112], off⟩ :: ⟨4, [46], off + 1⟩ :: r) = .ok pRule r := by rfl
theorem rules_p_ok : ∀ (n m : Nat) (acc : List Ru) (off : Nat), n + acc.length ≤ 128 → n < m → rulesF m acc (pToks n off) = .ok (acc ++ List.replicate n pRule) (pToks 0 (off + 2 * n)) := by
  intro n
  induction n with
  | zero =>
    intro m acc off h1 h2
    cases m with
    | zero => omega
    | succ m =>
      have h := rulesF_stop (n := m) (acc := acc) (ts := pToks 0 off) (by rfl)
      simpa using h
  | succ n ih =>
    intro m acc off h1 h2
    cases m with
    | zero => omega
    | succ m =>
      have hs := rulesF_step (n := m) (acc := acc) (ts := pToks (n + 1) off) (ts' := pToks n (off + 2)) (x := pRule) (by show (1 : Int) ≠ 0; decide) (by omega) (rule_p off _)
      rw [hs, ih m _ _ (by simp; omega) (by omega), List.append_assoc, List.replicate_succ, show off + 2 + 2 * n = off + 2 * (n + 1) from by omega]
      rfl
theorem rules_p_err : ∀ (n m : Nat) (acc : List Ru) (off : Nat), 128 < n + acc.length → acc.length + m = 129 → 0 < m → rulesF m acc (pToks n off) = .err (off + 2 * (128 - acc.length)) 2 := by
  intro n
  induction n with
  | zero => intro m acc off h1 h2 h3; omega
  | succ n ih =>
    intro m acc off h1 h2 h3
    cases m with
    | zero => omega
    | succ m =>
      rcases Nat.lt_or_ge acc.length 128 with hl | hl
      · have hs := rulesF_step (n := m) (acc := acc) (ts := pToks (n + 1) off) (ts' := pToks n (off + 2)) (x := pRule) (by show (1 : Int) ≠ 0; decide) hl (rule_p off _)
        rw [hs, ih m _ _ (by simp; omega) (by simp; omega) (by omega), List.length_append, List.length_singleton, show off + 2 + 2 * (128 - (acc.length + 1)) = off + 2 * (128 - acc.length) from by omega]
      · have hl8 : acc.length = 128 := by omega
        have h0 : (hd (pToks (n + 1) off)).kind = 1 := rfl
        rw [rulesF, if_neg (by rw [h0]; decide), if_pos (by rw [h0, hl8]; rfl)]
        show PR.err off 2 = _
        rw [hl8]
        rfl
def descL (n : Nat) : List UInt8 := repL [112, 46] n
theorem desc_lex {n : Nat} (h : n ≤ 256) : lexF (descL n) = .ok (pToks n 0) := by
  have hl : (descL n).length = 2 * n := by unfold descL; rw [repL_len]; simp; omega
  unfold lexF
  rw [if_neg (by omega)]
  exact lex_p n _ 0 (by omega)
theorem desc_lo {n : Nat} (h : n ≤ 128) : parseF (descL n) = .ok (List.replicate n pRule) := by
  unfold parseF readF
  rw [desc_lex (by omega)]
  simp only
  rw [rules_p_ok n 129 [] 0 (by simpa using h) (by omega)]
  rfl
theorem desc_hi {n : Nat} (h : 128 < n) (h2 : n ≤ 256) : parseF (descL n) = .err 256 2 := by
  unfold parseF readF
  rw [desc_lex h2]
  simp only
  rw [rules_p_err n 129 [] 0 (by simpa using h) rfl (by omega)]
  rfl
end Go.Proofs.YtnlphgpcpdfjhaaDoor
