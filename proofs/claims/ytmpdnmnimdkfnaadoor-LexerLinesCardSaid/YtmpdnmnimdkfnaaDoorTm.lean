/- Plain laws of the lexer, more: offsets. -/
import Derived.Test.YtmpdnmnimdkfnaaDoorTl
namespace Go.Proofs.YtmpdnmnimdkfnaaDoor

theorem lexGo_pos : ∀ (f off : Nat) (l : List UInt8) (ts : List Tok), lexGo f off l = .ok ts → ∀ (i : Nat) (t : Tok), ts[i]? = some t → t.pos ≤ off + l.length := by
  intro f
  induction f with
  | zero => intro off l ts h; cases h
  | succ f ih =>
    intro off l ts h i t ht
    cases l with
    | nil =>
      rw [lexGo_nil] at h
      cases h
      have := List.mem_of_getElem? ht
      simp only [List.mem_singleton] at this
      subst this
      exact Nat.le_refl _
    | cons c r =>
      simp only [List.length_cons]
      cases step2 c with
      | blank h1 => rw [lexGo_blank _ _ _ _ h1] at h; have := ih _ _ _ h i t ht; omega
      | hash h1 h2 =>
        rw [lexGo_hash _ _ _ _ h1 h2] at h
        have h3 := ih _ _ _ h i t ht
        have h4 := tw_dw' (fun c => noLf (bInt c)) (c :: r)
        simp only [List.length_cons] at h4
        omega
      | run h1 h2 h3 =>
        have h5 := tw_dw' (fun c => runB (bInt c)) (c :: r)
        simp only [List.length_cons] at h5
        cases h4 : (kindF ((c :: r).takeWhile (fun c => runB (bInt c))) == 0) with
        | true => rw [lexGo_badrun _ _ _ _ h1 h2 h3 h4] at h; cases h
        | false =>
          rw [lexGo_run _ _ _ _ h1 h2 h3 h4] at h
          obtain ⟨t', hx, rfl⟩ := pre_ok h
          cases i with
          | zero => simp at ht; subst ht; simp only; omega
          | succ i => have h6 := ih _ _ _ hx i t (by simpa using ht); omega
      | sym h1 h2 h3 h4 =>
        rw [lexGo_sym _ _ _ _ h1 h2 h3 h4] at h
        obtain ⟨t', hx, rfl⟩ := pre_ok h
        cases i with
        | zero => simp at ht; subst ht; simp only; omega
        | succ i => have h6 := ih _ _ _ hx i t (by simpa using ht); omega
      | bad h1 h2 h3 h4 => rw [lexGo_bad _ _ _ _ h1 h2 h3 h4] at h; cases h
theorem lexF_pos {l : List UInt8} {ts : List Tok} (h : lexF l = .ok ts) : ∀ (i : Nat) (t : Tok), ts[i]? = some t → t.pos ≤ l.length := by
  unfold lexF at h
  split at h
  · cases h
  · intro i t ht
    have := lexGo_pos _ _ _ _ h i t ht
    omega
end Go.Proofs.YtmpdnmnimdkfnaaDoor
