/- Plain laws of the lexer: its tokens cover the text, with only blanks and comments between them. -/
import Derived.Test.YtmpdnmnimdkfnaaDoorTl
namespace Go.Proofs.YtmpdnmnimdkfnaaDoor

/-- one byte of a gap: whether a comment goes on -/
def gapN (cm : Bool) (c : UInt8) : Bool := bInt c == 35 || (cm && bInt c != 10)
/-- a gap read from a state; none: a byte is neither a blank nor of a comment -/
def gapF : Bool → List UInt8 → Option Bool
  | cm, [] => some cm
  | cm, c :: r => if gapN cm c || blankB (bInt c) then gapF (gapN cm c) r else none
theorem gapF_cons (cm : Bool) (c : UInt8) (r : List UInt8) : gapF cm (c :: r) = if gapN cm c || blankB (bInt c) then gapF (gapN cm c) r else none := rfl
theorem gapF_app : ∀ (a b : List UInt8) (cm : Bool), gapF cm (a ++ b) = (gapF cm a).bind fun cm' => gapF cm' b
  | [], b, cm => rfl
  | c :: a, b, cm => by
    rw [List.cons_append, gapF_cons, gapF_cons]
    split
    · exact gapF_app a b _
    · rfl
theorem gapF_comment : ∀ (a : List UInt8), (∀ c ∈ a, noLf (bInt c) = true) → gapF true a = some true
  | [], _ => rfl
  | c :: a, h => by
    have h1 := h c List.mem_cons_self
    have h2 : gapN true c = true := by
      unfold gapN noLf at *
      cases hc : (bInt c == 10) <;> simp [hc, bne] at h1 ⊢
    unfold gapF
    rw [h2, Bool.true_or, if_pos rfl]
    exact gapF_comment a fun x hx => h x (List.mem_cons_of_mem _ hx)
/-- the tokens ts cover the text s from e on -/
def CovF (s : List UInt8) : Nat → List Tok → Prop
  | e, [] => e = s.length
  | e, t :: ts => e ≤ t.pos ∧ t.pos + t.text.length ≤ s.length ∧ (s.drop t.pos).take t.text.length = t.text ∧ (∃ cm, gapF false ((s.drop e).take (t.pos - e)) = some cm) ∧ CovF s (t.pos + t.text.length) ts
/-- what stands between: the gap from e to off has been read, its state cm; a comment that goes on is at its end -/
structure GapI (s : List UInt8) (e off : Nat) (cm : Bool) (rest : List UInt8) : Prop where
  le : e ≤ off
  hi : off ≤ s.length
  eq : s.drop off = rest
  gap : gapF false ((s.drop e).take (off - e)) = some cm
  stop : cm = true → rest = [] ∨ ∃ r, rest = 10 :: r
theorem take_split {s : List UInt8} {e off k : Nat} (h : e ≤ off) : (s.drop e).take (off + k - e) = (s.drop e).take (off - e) ++ (s.drop off).take k := by
  rw [show off + k - e = (off - e) + k from by omega, List.take_add, List.drop_drop, show e + (off - e) = off from by omega]
theorem lexGo_cov (s : List UInt8) : ∀ (f off : Nat) (l : List UInt8) (ts : List Tok) (e : Nat) (cm : Bool), lexGo f off l = .ok ts → l.length < f → GapI s e off cm l → CovF s e ts := by
  intro f
  induction f with
  | zero => intro off l ts e cm _ h; omega
  | succ f ih =>
    intro off l ts e cm h hf hg
    have hlen : l.length = s.length - off := by rw [← hg.eq, List.length_drop]
    cases l with
    | nil =>
      rw [lexGo_nil] at h
      cases h
      simp only [List.length_nil] at hlen
      have := hg.hi
      exact ⟨hg.le, by simp; omega, by simp, ⟨cm, hg.gap⟩, by show off + 0 = s.length; omega⟩
    | cons c r =>
      simp only [List.length_cons] at hf hlen
      have hcm : (bInt c == 10) = false → cm = false := by
        intro hc
        cases cm with
        | false => rfl
        | true =>
          rcases hg.stop rfl with h0 | ⟨r', h0⟩
          · cases h0
          · cases h0; cases hc
      have hdrop : s.drop (off + 1) = r := by
        rw [← List.drop_drop, hg.eq]; rfl
      cases step2 c with
      | blank h1 =>
        rw [lexGo_blank _ _ _ _ h1] at h
        have hn : gapN cm c = false := by
          unfold gapN
          have h35 : (bInt c == 35) = false := by
            unfold blankB at h1
            simp at h1 ⊢
            omega
          rw [h35, Bool.false_or]
          cases hc : (bInt c == 10) with
          | false => rw [hcm hc]; rfl
          | true => simp [bne, hc]
        refine ih _ _ _ e false h (by omega) ⟨by have := hg.le; omega, by omega, hdrop, ?_, fun h => by cases h⟩
        rw [take_split hg.le, gapF_app, hg.gap, hg.eq]
        show gapF cm [c] = some false
        unfold gapF
        rw [hn, h1, Bool.false_or, if_pos rfl]
        rfl
      | hash h1 h2 =>
        rw [lexGo_hash _ _ _ _ h1 h2] at h
        have hp : noLf (bInt c) = true := by rw [beq_iff_eq] at h2; rw [h2]; rfl
        have hd := dw_lt' (fun c => noLf (bInt c)) c r hp
        have ht := tw_dw' (fun c => noLf (bInt c)) (c :: r)
        simp only [List.length_cons] at ht
        have hc10 : (bInt c == 10) = false := by rw [beq_iff_eq] at h2; rw [h2]; rfl
        have hc0 := hcm hc10
        subst hc0
        refine ih _ _ _ e true h (by omega) ⟨by have := hg.le; omega, by omega, ?_, ?_, fun _ => ?_⟩
        · rw [← List.drop_drop, hg.eq, ← dropWhile_drop]
        · rw [take_split hg.le, gapF_app, hg.gap, hg.eq, ← takeWhile_take]
          show gapF false ((c :: r).takeWhile (fun c => noLf (bInt c))) = some true
          rw [List.takeWhile_cons_of_pos (p := fun c => noLf (bInt c)) hp]
          unfold gapF
          have hn : gapN false c = true := by unfold gapN; rw [h2]; rfl
          rw [hn, Bool.true_or, if_pos rfl]
          exact gapF_comment _ (tw_all (fun c => noLf (bInt c)) r)
        · cases hx : (c :: r).dropWhile (fun c => noLf (bInt c)) with
          | nil => exact Or.inl rfl
          | cons y q =>
            have := dw_head (fun c => noLf (bInt c)) _ _ _ hx
            refine Or.inr ⟨q, ?_⟩
            simp only [noLf, Bool.not_eq_false', beq_iff_eq] at this
            have hy : y = 10 := UInt8.toNat_inj.1 (by unfold bInt at this; show y.toNat = 10; omega)
            rw [hy]
      | run h1 h2 h3 =>
        have hd := dw_lt' (fun c => runB (bInt c)) c r h3
        have ht := tw_dw' (fun c => runB (bInt c)) (c :: r)
        simp only [List.length_cons] at ht
        cases h4 : (kindF ((c :: r).takeWhile (fun c => runB (bInt c))) == 0) with
        | true => rw [lexGo_badrun _ _ _ _ h1 h2 h3 h4] at h; cases h
        | false =>
          rw [lexGo_run _ _ _ _ h1 h2 h3 h4] at h
          obtain ⟨t', hx, rfl⟩ := pre_ok h
          refine ⟨hg.le, by show off + ((c :: r).takeWhile (fun c => runB (bInt c))).length ≤ s.length; omega, ?_, ⟨cm, hg.gap⟩, ?_⟩
          · show (s.drop off).take ((c :: r).takeWhile (fun c => runB (bInt c))).length = (c :: r).takeWhile (fun c => runB (bInt c))
            rw [hg.eq, ← takeWhile_take]
          · refine ih _ _ _ _ false hx (by omega) ⟨Nat.le_refl _, by show off + ((c :: r).takeWhile (fun c => runB (bInt c))).length ≤ s.length; omega, ?_, ?_, fun h => by cases h⟩
            · rw [← List.drop_drop, hg.eq, ← dropWhile_drop]
            · simp [gapF]
      | sym h1 h2 h3 h4 =>
        rw [lexGo_sym _ _ _ _ h1 h2 h3 h4] at h
        obtain ⟨t', hx, rfl⟩ := pre_ok h
        refine ⟨hg.le, by show off + 1 ≤ s.length; omega, by show (s.drop off).take 1 = [c]; rw [hg.eq]; rfl, ⟨cm, hg.gap⟩, ?_⟩
        refine ih _ _ _ _ false hx (by omega) ⟨Nat.le_refl _, by show off + 1 ≤ s.length; omega, hdrop, by simp [gapF], fun h => by cases h⟩
      | bad h1 h2 h3 h4 => rw [lexGo_bad _ _ _ _ h1 h2 h3 h4] at h; cases h
theorem lexF_cov {s : List UInt8} {ts : List Tok} (h : lexF s = .ok ts) : CovF s 0 ts := by
  unfold lexF at h
  split at h
  · cases h
  exact lexGo_cov s _ _ _ _ 0 false h (by omega) ⟨Nat.le_refl _, Nat.zero_le _, rfl, by simp [gapF], fun h => by cases h⟩
end Go.Proofs.YtmpdnmnimdkfnaaDoor
