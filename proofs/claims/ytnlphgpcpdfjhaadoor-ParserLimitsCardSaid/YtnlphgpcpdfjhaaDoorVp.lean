/- What the parser gives is valid: plain laws. -/
import Derived.Test.YtnlphgpcpdfjhaaDoorLo
namespace Go.Proofs.YtnlphgpcpdfjhaaDoor

def Tm.name : Tm → List UInt8 | .mk nm _ => nm
def Tm.args : Tm → List Tm | .mk _ l => l
/-- a valid term of at most so many levels -/
def validT (var : Bool) : Nat → Tm → Bool
  | 0, _ => false
  | n + 1, t => if t.args.length = 0 then (nameF t.name || numF t.name) || (var && varF t.name) else nameF t.name && decide (t.args.length ≤ 4) && t.args.all (validT var n)
def atomV (t : Tm) : Bool := validT true 4 t && nameF t.name

theorem kind_name {l : List UInt8} (h : kindF l = 1) : nameF l = true := by
  unfold kindF at h
  split at h
  · omega
  · split at h
    · assumption
    · split at h
      · omega
      · split at h <;> omega
theorem kind_num {l : List UInt8} (h : kindF l = 2) : numF l = true := by
  unfold kindF at h
  split at h
  · omega
  · split at h
    · omega
    · split at h
      · assumption
      · split at h <;> omega
theorem kind_var {l : List UInt8} (h : kindF l = 3) : varF l = true := by
  unfold kindF at h
  split at h
  · omega
  · split at h
    · omega
    · split at h
      · omega
      · split at h
        · assumption
        · omega

def Good (ts : List Tok) : Prop := ∀ t ∈ ts, goodT t
theorem Good.hd {ts : List Tok} (h : Good ts) (hk : (hd ts).kind ≠ 0) : goodT (Go.Proofs.YtnlphgpcpdfjhaaDoor.hd ts) := by
  obtain ⟨t, r, rfl⟩ := ne_of_kind hk
  exact h t (by simp)
theorem Good.tail {ts : List Tok} (h : Good ts) : Good ts.tail := fun t ht => h t (List.mem_of_mem_tail ht)
theorem Good.rest {α : Type} {f : List Tok → PR α} {ts r : List Tok} {v : α} (hl : LocAt f ts) (h : Good ts) (he : f ts = .ok v r) : Good r := by
  obtain ⟨p, e, _, _⟩ := hl v r he
  exact fun t ht => h t (by rw [e]; exact List.mem_append_right _ ht)
theorem Good.name {ts : List Tok} (h : Good ts) (hk : (Go.Proofs.YtnlphgpcpdfjhaaDoor.hd ts).kind = 1) : nameF (Go.Proofs.YtnlphgpcpdfjhaaDoor.hd ts).text = true :=
  kind_name ((h.hd (by omega) (by omega) (by omega)).trans hk)

theorem args_valid (tf : List Tok → PR Tm) (H : ∀ ts, LocAt tf ts) (d : Nat) (hb : ∀ ts v r, tf ts = .ok v r → begT ts = true) (hv : ∀ ts v r, Good ts → tf ts = .ok v r → validT true d v = true) :
    ∀ (n : Nat) (acc : List Tm) (ts r : List Tok) (v : List Tm), Good ts → acc.length ≤ 4 → (acc.all (validT true d)) = true → argsF tf n acc ts = .ok v r → 0 < v.length ∧ v.length ≤ 4 ∧ v.all (validT true d) = true := by
  intro n
  induction n with
  | zero => intro acc ts r v _ _ _ h; exact (fail_ne h).elim
  | succ n ih =>
    intro acc ts r v hg hl ha h
    obtain ⟨hc, t, ts', ht, h⟩ := argsF_inv h
    have hlt : acc.length < 4 := by
      rcases Nat.lt_or_ge acc.length 4 with h4 | h4
      · exact h4
      · have e4 : acc.length = 4 := by omega
        rw [e4, hb _ _ _ ht] at hc
        cases hc
    have hall : (acc ++ [t]).all (validT true d) = true := by
      rw [List.all_append, ha, Bool.true_and, List.all_cons, hv _ _ _ hg ht]; rfl
    rcases h with ⟨_, h⟩ | ⟨_, _, rfl, _⟩
    · exact ih _ _ _ _ (hg.rest (H ts) ht).tail (by simp; omega) hall h
    · exact ⟨by simp, by simp; omega, hall⟩
theorem comp_valid (tf : List Tok → PR Tm) (H : ∀ ts, LocAt tf ts) (d : Nat) (hb : ∀ ts v r, tf ts = .ok v r → begT ts = true) (hv : ∀ ts v r, Good ts → tf ts = .ok v r → validT true d v = true)
    {ts r : List Tok} {v : Tm} (hg : Good ts) (hk : (hd ts).kind = 1) (h : compF tf ts = .ok v r) : validT true (d + 1) v = true ∧ nameF v.name = true := by
  have hn := hg.name hk
  rcases compF_inv h with ⟨_, l, ha, rfl⟩ | ⟨_, rfl, _⟩
  · obtain ⟨h0, h4, hall⟩ := args_valid tf H d hb hv _ _ _ _ _ hg.tail.tail (by simp) (by simp) ha
    refine ⟨?_, hn⟩
    rw [validT, if_neg (by simp only [Tm.args]; omega)]
    simp only [Tm.args, Tm.name, hn, hall, h4, decide_true, Bool.and_self]
  · refine ⟨?_, hn⟩
    rw [validT, if_pos (by rfl)]
    simp only [Tm.name, hn, Bool.true_or]
theorem term_beg {d : Nat} {ts r : List Tok} {v : Tm} (h : termF d ts = .ok v r) : begT ts = true := by
  cases d with
  | zero => exact (termF_zero h).elim
  | succ d => exact (termF_inv h).1
theorem term_valid : ∀ (d : Nat) (ts : List Tok) (v : Tm) (r : List Tok), Good ts → termF d ts = .ok v r → validT true d v = true := by
  intro d
  induction d with
  | zero => intro ts v r _ h; exact (termF_zero h).elim
  | succ d ih =>
    intro ts v r hg h
    obtain ⟨hb, h⟩ := termF_inv h
    rcases h with ⟨hk, h⟩ | ⟨hk, rfl, rfl⟩
    · exact (comp_valid (termF d) (loc_term d) d (fun _ _ _ h => term_beg h) ih hg hk h).1
    · have hne := begT_kind hb
      have hgd := hg.hd hne
      rw [validT, if_pos (by rfl)]
      simp only [Tm.name]
      have hk2 : (hd ts).kind = 2 ∨ (hd ts).kind = 3 := by
        unfold begT at hb
        simp only [Bool.or_eq_true, beq_iff_eq] at hb
        omega
      rcases hk2 with hk2 | hk2
      · rw [kind_num ((hgd hne (by omega)).trans hk2)]; simp
      · rw [kind_var ((hgd hne (by omega)).trans hk2)]; simp
theorem atom_valid {ts r : List Tok} {v : Tm} (hg : Good ts) (h : atomF ts = .ok v r) : atomV v = true := by
  obtain ⟨hk, h⟩ := atomF_inv h
  obtain ⟨h1, h2⟩ := comp_valid (termF 3) (loc_term 3) 3 (fun _ _ _ h => term_beg h) (term_valid 3) hg hk h
  unfold atomV
  rw [h1, h2]; rfl
theorem lit_valid {o : Nat} {ts r : List Tok} {v : Li} (hg : Good ts) (h : litF o ts = .ok v r) : atomV v.atom = true ∧ o ≠ 8 := by
  obtain ⟨hc, ha, _⟩ := litF_inv h
  refine ⟨?_, ?_⟩
  · cases hi : isT ts [110, 111, 116] with
    | true => rw [hi, if_pos rfl] at ha; exact atom_valid hg.tail ha
    | false => rw [hi, if_neg Bool.false_ne_true] at ha; exact atom_valid hg ha
  · rintro rfl
    cases hi : isT ts [110, 111, 116] with
    | true => rw [hi] at hc; cases hc
    | false =>
      rw [hi, if_neg Bool.false_ne_true] at ha
      rw [hi, (atomF_inv ha).1] at hc
      cases hc
theorem body_valid : ∀ (n : Nat) (acc : List Li) (ts r : List Tok) (v : List Li), Good ts → acc.length ≤ 8 → (∀ l ∈ acc, atomV l.atom = true) → bodyF n acc ts = .ok v r → v.length ≤ 8 ∧ ∀ l ∈ v, atomV l.atom = true := by
  intro n
  induction n with
  | zero => intro acc ts r v _ _ _ h; exact (fail_ne h).elim
  | succ n ih =>
    intro acc ts r v hg hl ha h
    obtain ⟨l, ts', ht, h⟩ := bodyF_inv h
    obtain ⟨h1, h2⟩ := lit_valid hg ht
    have hall : ∀ x ∈ acc ++ [l], atomV x.atom = true := by
      intro x hx
      rcases List.mem_append.1 hx with hx | hx
      · exact ha x hx
      · rw [List.mem_singleton] at hx; rw [hx]; exact h1
    rcases h with ⟨_, h⟩ | ⟨_, rfl, _⟩
    · exact ih _ _ _ _ (hg.rest (loc_lit _ ts) ht).tail (by simp; omega) hall h
    · exact ⟨by simp; omega, hall⟩
/-- a rule within the limits -/
def ruleV (r : Ru) : Prop := atomV r.head = true ∧ r.body.length ≤ 8 ∧ ∀ l ∈ r.body, atomV l.atom = true
theorem rule_valid {ts r : List Tok} {v : Ru} (hg : Good ts) (h : ruleF ts = .ok v r) : ruleV v := by
  obtain ⟨ts1, ts2, ha, hb, _, _⟩ := ruleF_inv h
  refine ⟨atom_valid hg ha, ?_⟩
  rcases hb with ⟨_, hb⟩ | ⟨_, hb, _⟩
  · exact body_valid _ _ _ _ _ (hg.rest (loc_atom ts) ha).tail (by simp) (by simp) hb
  · rw [hb]; simp
theorem rules_valid : ∀ (n : Nat) (acc : List Ru) (ts r : List Tok) (v : List Ru), Good ts → acc.length ≤ 128 → (∀ l ∈ acc, ruleV l) → rulesF n acc ts = .ok v r → v.length ≤ 128 ∧ ∀ l ∈ v, ruleV l := by
  intro n
  induction n with
  | zero => intro acc ts r v _ _ _ h; exact (fail_ne h).elim
  | succ n ih =>
    intro acc ts r v hg hl ha h
    rcases rulesF_inv h with ⟨h0, rfl, rfl⟩ | ⟨h0, hc, x, ts', hr, h⟩
    · exact ⟨hl, ha⟩
    · have hlt : acc.length < 128 := by
        rcases Nat.lt_or_ge acc.length 128 with h4 | h4
        · exact h4
        · have e4 : acc.length = 128 := by omega
          obtain ⟨_, _, hat, _⟩ := ruleF_inv hr
          rw [e4, (atomF_inv hat).1] at hc
          cases hc
      refine ih _ _ _ _ ?_ (by simp; omega) ?_ h
      · obtain ⟨p, e, _, _, _⟩ := loc_rule _ _ _ hr
        exact fun t ht => hg t (by rw [e]; exact List.mem_append_right _ ht)
      · intro l hl
        rcases List.mem_append.1 hl with hl | hl
        · exact ha l hl
        · rw [List.mem_singleton] at hl; rw [hl]; exact rule_valid hg hr
theorem parse_valid {l : List UInt8} {v : List Ru} (h : parseF l = .ok v) : v.length ≤ 128 ∧ ∀ r ∈ v, ruleV r := by
  unfold parseF readF at h
  cases hx : lexF l with
  | err p e => rw [hx] at h; cases h
  | ok ts =>
    rw [hx] at h
    simp only at h
    cases hr : rulesF 129 [] ts with
    | err p e => rw [hr] at h; cases h
    | ok v' r =>
      rw [hr, endF] at h
      cases h0 : (hd r).kind == 0 with
      | false => rw [if_neg (by rw [h0]; exact Bool.false_ne_true)] at h; cases h
      | true =>
        rw [if_pos h0] at h
        cases h
        exact rules_valid _ _ _ _ _ (lexF_good hx) (by simp) (by simp) hr
end Go.Proofs.YtnlphgpcpdfjhaaDoor
