/- Merged texts: What the parser gives is small enough to be compared. No error of the parser has the number 0. Equal lists of rules and of terms are reported equal. -/
import Derived.Test.YtmplpbdldcokjaaGreatDoorXf
import Derived.Test.YtmplpbdldcokjaaGreatDoorXi
import Derived.Test.YtmplpbdldcokjaaGreatDoorXh
namespace Go.Proofs.YtmplpbdldcokjaaGreatDoor
/- What the parser gives is small enough to be compared. -/
section

theorem tms_valid {var : Bool} : ∀ (n : Nat) (t : Tm), validT var n t = true → TmS t := by
  intro n
  induction n with
  | zero => intro t h; rw [validT] at h; cases h
  | succ n ih =>
    intro t h
    cases t with
    | mk nm l =>
    rw [validT] at h
    split at h
    · rename_i h0
      have h0 : l.length = 0 := h0
      have hl : l = [] := List.length_eq_zero_iff.1 h0
      subst hl
      exact .mk nm [] (by simp) (by simp)
    · rw [Bool.and_eq_true, Bool.and_eq_true] at h
      obtain ⟨⟨_, h4⟩, hall⟩ := h
      have h4 : l.length ≤ 4 := of_decide_eq_true h4
      exact .mk nm l (by omega) (fun t ht => ih t (List.all_eq_true.1 hall t ht))
theorem atom_tms {t : Tm} (h : atomV t = true) : TmS t := by
  unfold atomV at h
  rw [Bool.and_eq_true] at h
  exact tms_valid _ _ h.1
theorem rus_valid {r : Ru} (h : ruleV r) : RuS r := ⟨atom_tms h.1, by have := h.2.1; omega, fun l hl => atom_tms (h.2.2 l hl)⟩

theorem termRF_valid {l : List UInt8} {t : Tm} (h : termRF l = .ok t) : validT true 4 t = true := by
  unfold termRF readF at h
  cases hx : lexF l with
  | err p e => rw [hx] at h; cases h
  | ok ts =>
    rw [hx] at h
    simp only at h
    cases hr : termF 4 ts with
    | err p e => rw [hr] at h; cases h
    | ok v r =>
      rw [hr, endF] at h
      split at h
      · cases h; exact term_valid _ _ _ _ (lexF_good hx) hr
      · cases h
theorem ruleRF_valid {l : List UInt8} {t : Ru} (h : ruleRF l = .ok t) : ruleV t := by
  unfold ruleRF readF at h
  cases hx : lexF l with
  | err p e => rw [hx] at h; cases h
  | ok ts =>
    rw [hx] at h
    simp only at h
    cases hr : ruleF ts with
    | err p e => rw [hr] at h; cases h
    | ok v r =>
      rw [hr, endF] at h
      split at h
      · cases h; exact rule_valid (lexF_good hx) hr
      · cases h
theorem termsGo_valid : ∀ (n : Nat) (acc : List Tm) (ts r : List Tok) (v : List Tm), Good ts → (∀ t ∈ acc, validT true 4 t = true) → termsGo n acc ts = .ok v r → v.length ≤ acc.length + ts.length ∧ ∀ t ∈ v, validT true 4 t = true := by
  intro n
  induction n with
  | zero => intro acc ts r v _ _ h; exact (fail_ne h).elim
  | succ n ih =>
    intro acc ts r v hg ha h
    rw [termsGo] at h
    cases ht : termF 4 ts with
    | err p e => rw [ht] at h; cases h
    | ok t ts' =>
      rw [ht] at h
      simp only at h
      have hv := term_valid _ _ _ _ hg ht
      have hl := termF_len _ _ _ _ ht
      have hall : ∀ x ∈ acc ++ [t], validT true 4 x = true := by
        intro x hx
        rcases List.mem_append.1 hx with hx | hx
        · exact ha x hx
        · rw [List.mem_singleton] at hx; rw [hx]; exact hv
      split at h
      · obtain ⟨h1, h2⟩ := ih _ _ _ _ (hg.rest (loc_term 4 ts) ht).tail hall h
        have : ts'.tail.length ≤ ts'.length := by rw [List.length_tail]; omega
        exact ⟨by rw [List.length_append] at h1; simp only [List.length_singleton] at h1; omega, h2⟩
      · cases h
        exact ⟨by rw [List.length_append]; simp only [List.length_singleton]; omega, hall⟩
theorem termsRF_valid {l : List UInt8} {v : List Tm} (h : termsRF l = .ok v) : v.length < 20000 ∧ ∀ t ∈ v, validT true 4 t = true := by
  unfold termsRF readF at h
  cases hx : lexF l with
  | err p e => rw [hx] at h; cases h
  | ok ts =>
    rw [hx] at h
    simp only at h
    have hlen := lexF_len hx
    cases hr : termsF ts with
    | err p e => rw [hr] at h; cases h
    | ok v' r =>
      rw [hr, endF] at h
      split at h
      · cases h
        rw [termsF] at hr
        split at hr
        · cases hr; exact ⟨by simp, by simp⟩
        · obtain ⟨h1, h2⟩ := termsGo_valid _ _ _ _ _ (lexF_good hx) (by simp) hr
          exact ⟨by simp only [List.length_nil] at h1; omega, h2⟩
      · cases h

end
/- No error of the parser has the number 0. -/
section

def NZ {α : Type} (r : PR α) : Prop := ∀ p e, r = .err p e → e ≠ 0
theorem nz_fail {α : Type} (ts : List Tok) (x : Int) (hx : x ≠ 0) : NZ (failT (α := α) ts x) := by
  intro p e h
  unfold failT at h
  cases h
  exact hx
theorem nz_ok {α : Type} (v : α) (r : List Tok) : NZ (.ok v r) := fun _ _ h => by cases h
theorem nz_args (tf : List Tok → PR Tm) (H : ∀ ts, NZ (tf ts)) : ∀ (n : Nat) (acc : List Tm) (ts : List Tok), NZ (argsF tf n acc ts) := by
  intro n
  induction n with
  | zero => intro acc ts; exact nz_fail _ _ (by decide)
  | succ n ih =>
    intro acc ts
    rw [argsF]
    split
    · exact nz_fail _ _ (by decide)
    · cases ht : tf ts with
      | err p e => intro p' e' h; cases h; exact H _ _ _ ht
      | ok t ts' =>
        simp only
        split
        · exact ih _ _
        · split
          · exact nz_ok _ _
          · exact nz_fail _ _ (by decide)
theorem nz_comp (tf : List Tok → PR Tm) (H : ∀ ts, NZ (tf ts)) (ts : List Tok) : NZ (compF tf ts) := by
  rw [compF]
  split
  · cases ha : argsF tf 5 [] ts.tail.tail with
    | err p e => intro p' e' h; cases h; exact nz_args tf H _ _ _ _ _ ha
    | ok l r => exact nz_ok _ _
  · exact nz_ok _ _
theorem nz_term : ∀ (d : Nat) (ts : List Tok), NZ (termF d ts) := by
  intro d
  induction d with
  | zero => intro ts; rw [termF]; split <;> exact nz_fail _ _ (by decide)
  | succ d ih =>
    intro ts
    rw [termF]
    split
    · split
      · exact nz_comp _ ih _
      · exact nz_ok _ _
    · exact nz_fail _ _ (by decide)
theorem nz_atom (ts : List Tok) : NZ (atomF ts) := by
  rw [atomF]
  split
  · exact nz_comp _ (nz_term 3) _
  · exact nz_fail _ _ (by decide)
theorem nz_lit (o : Nat) (ts : List Tok) : NZ (litF o ts) := by
  rw [litF]
  split
  · exact nz_fail _ _ (by decide)
  · split
    · cases ha : atomF ts.tail with
      | err p e => intro p' e' h; cases h; exact nz_atom _ _ _ ha
      | ok l r => exact nz_ok _ _
    · cases ha : atomF ts with
      | err p e => intro p' e' h; cases h; exact nz_atom _ _ _ ha
      | ok l r => exact nz_ok _ _
theorem nz_body : ∀ (n : Nat) (acc : List Li) (ts : List Tok), NZ (bodyF n acc ts) := by
  intro n
  induction n with
  | zero => intro acc ts; exact nz_fail _ _ (by decide)
  | succ n ih =>
    intro acc ts
    rw [bodyF]
    cases hl : litF acc.length ts with
    | err p e => intro p' e' h; cases h; exact nz_lit _ _ _ _ hl
    | ok l r =>
      simp only
      split
      · exact ih _ _
      · exact nz_ok _ _
theorem nz_rule (ts : List Tok) : NZ (ruleF ts) := by
  rw [ruleF]
  cases ha : atomF ts with
  | err p e => intro p' e' h; cases h; exact nz_atom _ _ _ ha
  | ok hh r =>
    simp only
    cases hb : (if isT r [105, 102] = true then bodyF 9 [] r.tail else PR.ok [] r) with
    | err p e =>
      intro p' e' h
      cases h
      split at hb
      · exact nz_body _ _ _ _ _ hb
      · cases hb
    | ok b r2 =>
      simp only
      split
      · exact nz_ok _ _
      · exact nz_fail _ _ (by decide)
theorem nz_rules : ∀ (n : Nat) (acc : List Ru) (ts : List Tok), NZ (rulesF n acc ts) := by
  intro n
  induction n with
  | zero => intro acc ts; exact nz_fail _ _ (by decide)
  | succ n ih =>
    intro acc ts
    rw [rulesF]
    split
    · exact nz_ok _ _
    · split
      · exact nz_fail _ _ (by decide)
      · cases hr : ruleF ts with
        | err p e => intro p' e' h; cases h; exact nz_rule _ _ _ hr
        | ok x r => exact ih _ _
theorem nz_read {α : Type} {pf : List Tok → PR α} (H : ∀ ts, NZ (pf ts)) (l : List UInt8) (p : Nat) (e : Int) (h : readF pf l = .err p e) : e ≠ 0 := by
  unfold readF at h
  cases hx : lexF l with
  | err p' e' => rw [hx] at h; cases h; exact lexF_err hx
  | ok ts =>
    rw [hx] at h
    simp only at h
    cases hp : pf ts with
    | err p' e' => rw [hp, endF] at h; cases h; exact H _ _ _ hp
    | ok v r =>
      rw [hp, endF] at h
      split at h
      · cases h
      · cases h; decide
theorem nz_parse {l : List UInt8} {p : Nat} {e : Int} (h : parseF l = .err p e) : e ≠ 0 := nz_read (nz_rules 129 []) l p e h
theorem nz_ruleR {l : List UInt8} {p : Nat} {e : Int} (h : ruleRF l = .err p e) : e ≠ 0 := nz_read nz_rule l p e h
theorem nz_termR {l : List UInt8} {p : Nat} {e : Int} (h : termRF l = .err p e) : e ≠ 0 := nz_read (nz_term 4) l p e h

end
/- Equal lists of rules and of terms are reported equal. -/
section
open Go Go.RowKit
set_option linter.unusedSimpArgs false


end
end Go.Proofs.YtmplpbdldcokjaaGreatDoor
