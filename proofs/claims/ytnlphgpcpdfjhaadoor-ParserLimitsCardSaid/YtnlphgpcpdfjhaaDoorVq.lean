/- What the parser gives is small enough to be compared. -/
import Derived.Test.YtnlphgpcpdfjhaaDoorVp
import Derived.Test.YtnlphgpcpdfjhaaDoorPr
import Derived.Test.YtnlphgpcpdfjhaaDoorRp
namespace Go.Proofs.YtnlphgpcpdfjhaaDoor

theorem tms_valid {var : Bool} : ∀ (n : Nat) (t : Tm), validT var n t = true → TmS t := by
  intro n
  induction n with
  | zero => intro t h; rw [validT] at h; cases h
  | succ n ih =>
    intro t h
    cases t with
    | mk nm l =>
    rw [validT] at h
    split at h
    · rename_i h0
      have h0 : l.length = 0 := h0
      have hl : l = [] := List.length_eq_zero_iff.1 h0
      subst hl
      exact .mk nm [] (by simp) (by simp)
    · rw [Bool.and_eq_true, Bool.and_eq_true] at h
      obtain ⟨⟨_, h4⟩, hall⟩ := h
      have h4 : l.length ≤ 4 := of_decide_eq_true h4
      exact .mk nm l (by omega) (fun t ht => ih t (List.all_eq_true.1 hall t ht))
theorem atom_tms {t : Tm} (h : atomV t = true) : TmS t := by
  unfold atomV at h
  rw [Bool.and_eq_true] at h
  exact tms_valid _ _ h.1
theorem rus_valid {r : Ru} (h : ruleV r) : RuS r := ⟨atom_tms h.1, by have := h.2.1; omega, fun l hl => atom_tms (h.2.2 l hl)⟩

theorem termRF_valid {l : List UInt8} {t : Tm} (h : termRF l = .ok t) : validT true 4 t = true := by
  unfold termRF readF at h
  cases hx : lexF l with
  | err p e => rw [hx] at h; cases h
  | ok ts =>
    rw [hx] at h
    simp only at h
    cases hr : termF 4 ts with
    | err p e => rw [hr] at h; cases h
    | ok v r =>
      rw [hr, endF] at h
      split at h
      · cases h; exact term_valid _ _ _ _ (lexF_good hx) hr
      · cases h
theorem ruleRF_valid {l : List UInt8} {t : Ru} (h : ruleRF l = .ok t) : ruleV t := by
  unfold ruleRF readF at h
  cases hx : lexF l with
  | err p e => rw [hx] at h; cases h
  | ok ts =>
    rw [hx] at h
    simp only at h
    cases hr : ruleF ts with
    | err p e => rw [hr] at h; cases h
    | ok v r =>
      rw [hr, endF] at h
      split at h
      · cases h; exact rule_valid (lexF_good hx) hr
      · cases h
theorem termsGo_valid : ∀ (n : Nat) (acc : List Tm) (ts r : List Tok) (v : List Tm), Good ts → (∀ t ∈ acc, validT true 4 t = true) → termsGo n acc ts = .ok v r → v.length ≤ acc.length + ts.length ∧ ∀ t ∈ v, validT true 4 t = true := by
  intro n
  induction n with
  | zero => intro acc ts r v _ _ h; exact (fail_ne h).elim
  | succ n ih =>
    intro acc ts r v hg ha h
    rw [termsGo] at h
    cases ht : termF 4 ts with
    | err p e => rw [ht] at h; cases h
    | ok t ts' =>
      rw [ht] at h
      simp only at h
      have hv := term_valid _ _ _ _ hg ht
      have hl := termF_len _ _ _ _ ht
      have hall : ∀ x ∈ acc ++ [t], validT true 4 x = true := by
        intro x hx
        rcases List.mem_append.1 hx with hx | hx
        · exact ha x hx
        · rw [List.mem_singleton] at hx; rw [hx]; exact hv
      split at h
      · obtain ⟨h1, h2⟩ := ih _ _ _ _ (hg.rest (loc_term 4 ts) ht).tail hall h
        have : ts'.tail.length ≤ ts'.length := by rw [List.length_tail]; omega
        exact ⟨by rw [List.length_append] at h1; simp only [List.length_singleton] at h1; omega, h2⟩
      · cases h
        exact ⟨by rw [List.length_append]; simp only [List.length_singleton]; omega, hall⟩
theorem termsRF_valid {l : List UInt8} {v : List Tm} (h : termsRF l = .ok v) : v.length < 20000 ∧ ∀ t ∈ v, validT true 4 t = true := by
  unfold termsRF readF at h
  cases hx : lexF l with
  | err p e => rw [hx] at h; cases h
  | ok ts =>
    rw [hx] at h
    simp only at h
    have hlen := lexF_len hx
    cases hr : termsF ts with
    | err p e => rw [hr] at h; cases h
    | ok v' r =>
      rw [hr, endF] at h
      split at h
      · cases h
        rw [termsF] at hr
        split at hr
        · cases hr; exact ⟨by simp, by simp⟩
        · obtain ⟨h1, h2⟩ := termsGo_valid _ _ _ _ _ (lexF_good hx) (by simp) hr
          exact ⟨by simp only [List.length_nil] at h1; omega, h2⟩
      · cases h
end Go.Proofs.YtnlphgpcpdfjhaaDoor
