/- No error of the parser has the number 0. -/
import Derived.Test.YtnlphgpcpdfjhaaDoorVq
namespace Go.Proofs.YtnlphgpcpdfjhaaDoor

def NZ {α : Type} (r : PR α) : Prop := ∀ p e, r = .err p e → e ≠ 0
theorem nz_fail {α : Type} (ts : List Tok) (x : Int) (hx : x ≠ 0) : NZ (failT (α := α) ts x) := by
  intro p e h
  unfold failT at h
  cases h
  exact hx
theorem nz_ok {α : Type} (v : α) (r : List Tok) : NZ (.ok v r) := fun _ _ h => by cases h
theorem nz_args (tf : List Tok → PR Tm) (H : ∀ ts, NZ (tf ts)) : ∀ (n : Nat) (acc : List Tm) (ts : List Tok), NZ (argsF tf n acc ts) := by
  intro n
  induction n with
  | zero => intro acc ts; exact nz_fail _ _ (by decide)
  | succ n ih =>
    intro acc ts
    rw [argsF]
    split
    · exact nz_fail _ _ (by decide)
    · cases ht : tf ts with
      | err p e => intro p' e' h; cases h; exact H _ _ _ ht
      | ok t ts' =>
        simp only
        split
        · exact ih _ _
        · split
          · exact nz_ok _ _
          · exact nz_fail _ _ (by decide)
theorem nz_comp (tf : List Tok → PR Tm) (H : ∀ ts, NZ (tf ts)) (ts : List Tok) : NZ (compF tf ts) := by
  rw [compF]
  split
  · cases ha : argsF tf 5 [] ts.tail.tail with
    | err p e => intro p' e' h; cases h; exact nz_args tf H _ _ _ _ _ ha
    | ok l r => exact nz_ok _ _
  · exact nz_ok _ _
theorem nz_term : ∀ (d : Nat) (ts : List Tok), NZ (termF d ts) := by
  intro d
  induction d with
  | zero => intro ts; rw [termF]; split <;> exact nz_fail _ _ (by decide)
  | succ d ih =>
    intro ts
    rw [termF]
    split
    · split
      · exact nz_comp _ ih _
      · exact nz_ok _ _
    · exact nz_fail _ _ (by decide)
theorem nz_atom (ts : List Tok) : NZ (atomF ts) := by
  rw [atomF]
  split
  · exact nz_comp _ (nz_term 3) _
  · exact nz_fail _ _ (by decide)
theorem nz_lit (o : Nat) (ts : List Tok) : NZ (litF o ts) := by
  rw [litF]
  split
  · exact nz_fail _ _ (by decide)
  · split
    · cases ha : atomF ts.tail with
      | err p e => intro p' e' h; cases h; exact nz_atom _ _ _ ha
      | ok l r => exact nz_ok _ _
    · cases ha : atomF ts with
      | err p e => intro p' e' h; cases h; exact nz_atom _ _ _ ha
      | ok l r => exact nz_ok _ _
theorem nz_body : ∀ (n : Nat) (acc : List Li) (ts : List Tok), NZ (bodyF n acc ts) := by
  intro n
  induction n with
  | zero => intro acc ts; exact nz_fail _ _ (by decide)
  | succ n ih =>
    intro acc ts
    rw [bodyF]
    cases hl : litF acc.length ts with
    | err p e => intro p' e' h; cases h; exact nz_lit _ _ _ _ hl
    | ok l r =>
      simp only
      split
      · exact ih _ _
      · exact nz_ok _ _
theorem nz_rule (ts : List Tok) : NZ (ruleF ts) := by
  rw [ruleF]
  cases ha : atomF ts with
  | err p e => intro p' e' h; cases h; exact nz_atom _ _ _ ha
  | ok hh r =>
    simp only
    cases hb : (if isT r [105, 102] = true then bodyF 9 [] r.tail else PR.ok [] r) with
    | err p e =>
      intro p' e' h
      cases h
      split at hb
      · exact nz_body _ _ _ _ _ hb
      · cases hb
    | ok b r2 =>
      simp only
      split
      · exact nz_ok _ _
      · exact nz_fail _ _ (by decide)
theorem nz_rules : ∀ (n : Nat) (acc : List Ru) (ts : List Tok), NZ (rulesF n acc ts) := by
  intro n
  induction n with
  | zero => intro acc ts; exact nz_fail _ _ (by decide)
  | succ n ih =>
    intro acc ts
    rw [rulesF]
    split
    · exact nz_ok _ _
    · split
      · exact nz_fail _ _ (by decide)
      · cases hr : ruleF ts with
        | err p e => intro p' e' h; cases h; exact nz_rule _ _ _ hr
        | ok x r => exact ih _ _
theorem nz_read {α : Type} {pf : List Tok → PR α} (H : ∀ ts, NZ (pf ts)) (l : List UInt8) (p : Nat) (e : Int) (h : readF pf l = .err p e) : e ≠ 0 := by
  unfold readF at h
  cases hx : lexF l with
  | err p' e' => rw [hx] at h; cases h; exact lexF_err hx
  | ok ts =>
    rw [hx] at h
    simp only at h
    cases hp : pf ts with
    | err p' e' => rw [hp, endF] at h; cases h; exact H _ _ _ hp
    | ok v r =>
      rw [hp, endF] at h
      split at h
      · cases h
      · cases h; decide
theorem nz_parse {l : List UInt8} {p : Nat} {e : Int} (h : parseF l = .err p e) : e ≠ 0 := nz_read (nz_rules 129 []) l p e h
theorem nz_ruleR {l : List UInt8} {p : Nat} {e : Int} (h : ruleRF l = .err p e) : e ≠ 0 := nz_read nz_rule l p e h
theorem nz_termR {l : List UInt8} {p : Nat} {e : Int} (h : termRF l = .err p e) : e ≠ 0 := nz_read (nz_term 4) l p e h
end Go.Proofs.YtnlphgpcpdfjhaaDoor
