/- The walks of (*parser.reader).terms and parser.Term$1. -/
import Derived.Test.YthkbnjojkeeffaaDoorRs
namespace Go.Proofs.YthkbnjojkeeffaaDoor
open Go Go.RowKit
set_option linter.unusedSimpArgs false

theorem tail_len {ts : List Tok} (h : (hd ts).kind ≠ 0) : ts.tail.length + 1 = ts.length := by
  cases ts with
  | nil => exact absurd rfl h
  | cons a r => rfl
theorem argsF_len {tf : List Tok → PR Tm} (htf : ∀ ts t r, tf ts = .ok t r → r.length < ts.length) :
    ∀ (n : Nat) (acc : List Tm) (ts : List Tok) (l : List Tm) (r : List Tok), argsF tf n acc ts = .ok l r → r.length < ts.length := by
  intro n
  induction n with
  | zero => intro acc ts l r h; cases h
  | succ n ih =>
    intro acc ts l r h
    rw [argsF] at h
    split at h
    · cases h
    · split at h
      · cases h
      · rename_i t ts' ht
        have h1 := htf _ _ _ ht
        split at h
        · have := ih _ _ _ _ h
          have h2 : ts'.tail.length ≤ ts'.length := by rw [List.length_tail]; omega
          omega
        · split at h
          · cases h
            have h2 : ts'.tail.length ≤ ts'.length := by rw [List.length_tail]; omega
            omega
          · cases h
theorem compF_len {tf : List Tok → PR Tm} (htf : ∀ ts t r, tf ts = .ok t r → r.length < ts.length) {ts r : List Tok} {t : Tm} (hk : (hd ts).kind ≠ 0) (h : compF tf ts = .ok t r) : r.length < ts.length := by
  have h0 := tail_len hk
  unfold compF at h
  split at h
  · split at h
    · cases h
    · rename_i l ts' ht
      cases h
      have := argsF_len htf _ _ _ _ _ ht
      have h2 : ts.tail.tail.length ≤ ts.tail.length := by rw [List.length_tail]; omega
      omega
  · cases h; omega
theorem termF_len : ∀ (d : Nat) (ts : List Tok) (t : Tm) (r : List Tok), termF d ts = .ok t r → r.length < ts.length := by
  intro d
  induction d with
  | zero => intro ts t r h; rw [termF] at h; split at h <;> cases h
  | succ d ih =>
    intro ts t r h
    rw [termF] at h
    split at h
    · rename_i hb
      have hk := begT_kind hb
      split at h
      · exact compF_len ih hk h
      · cases h
        have := tail_len hk
        omega
    · cases h
def termsK (n : Nat) (acc : List Tm) (cur : List Tok) : PR (List Tm) := if isT cur [44] then termsGo n acc cur.tail else .ok acc cur
theorem termsGo_err {n : Nat} {acc : List Tm} {ts : List Tok} {p : Nat} {e : Int} (hn : 0 < n) (h : termF 4 ts = .err p e) : termsGo n acc ts = .err p e := by
  cases n with
  | zero => omega
  | succ n => rw [termsGo, h]
theorem termsGo_ok {n : Nat} {acc : List Tm} {ts r : List Tok} {t : Tm} (hn : 0 < n) (h : termF 4 ts = .ok t r) : termsGo n acc ts = termsK (n - 1) (acc ++ [t]) r := by
  cases n with
  | zero => omega
  | succ n => rw [termsGo, h]; rfl
theorem Rd.len {w : World} {rb tb cap : Nat} {toks ts : List Tok} {i : Nat} (h : Rd w rb tb cap toks ts i) : ts.length < 20000 ∧ 0 < ts.length := by
  have h1 := h.ts_
  have h2 := h.big
  have h3 := h.lt
  subst h1
  rw [List.length_drop]
  omega
theorem infoTerm2 : (Tryd.prog.info? 24).map (fun i => (i.zero, i.size, i.bytes)) = some (some (.agg #[.string ⟨#[]⟩, .slice none 0 0]), 2, 40) := infoTerm

end Go.Proofs.YthkbnjojkeeffaaDoor
