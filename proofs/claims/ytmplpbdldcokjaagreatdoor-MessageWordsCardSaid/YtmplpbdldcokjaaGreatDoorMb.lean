/- Messages, plain: pieces of a text, the line of a message and its parts. -/
import Derived.Test.YtmplpbdldcokjaaGreatDoorMa
import Derived.Test.YtmplpbdldcokjaaGreatDoorGe
import Derived.Lib.Split
import Derived.Lib.SplitLaws
import Derived.Lib.AtoiAll
namespace Go.Proofs.YtmplpbdldcokjaaGreatDoor
open Go
set_option linter.unusedSimpArgs false

/-- a beginning put ahead of the first piece -/
def preP (x : List UInt8) : List (List UInt8) → List (List UInt8)
  | [] => [x]
  | y :: l => (x ++ y) :: l
/-- the pieces between blanks -/
def wordsF : List UInt8 → List (List UInt8)
  | [] => [[]]
  | c :: r => if c == 32 then [] :: wordsF r else preP [c] (wordsF r)
/-- the pieces between commas with a blank -/
def piecesF : List UInt8 → List (List UInt8)
  | [] => [[]]
  | c :: [] => [[c]]
  | c :: d :: r => if c == 44 && d == 32 then [] :: piecesF r else preP [c] (piecesF (d :: r))
theorem preP_nil (l : List (List UInt8)) (h : l ≠ []) : preP [] l = l := by cases l <;> simp_all [preP]
theorem preP_preP (x y : List UInt8) (l : List (List UInt8)) (h : l ≠ []) : preP x (preP y l) = preP (x ++ y) l := by cases l <;> simp_all [preP]
theorem preP_ne (x : List UInt8) (l : List (List UInt8)) : preP x l ≠ [] := by cases l <;> simp [preP]
theorem wordsF_ne (s : List UInt8) : wordsF s ≠ [] := by
  cases s with
  | nil => simp [wordsF]
  | cons c r => rw [wordsF]; split
                · simp
                · exact preP_ne _ _
theorem piecesF_ne (s : List UInt8) : piecesF s ≠ [] := by
  match s with
  | [] => simp [piecesF]
  | [c] => simp [piecesF]
  | c :: d :: r => rw [piecesF]; split
                   · simp
                   · exact preP_ne _ _
/-- a way to cut that follows the first place of the separator is strings.Split -/
theorem split_is (sep : List UInt8) (hsep : sep ≠ []) (F : List UInt8 → List (List UInt8)) (h1 : ∀ s, Lib.index s sep = -1 → F s = [s]) (h2 : ∀ s (i : Nat), Lib.index s sep = i → F s = s.take i :: F (s.drop (i + sep.length))) :
    ∀ (n : Nat) (s : List UInt8), s.length ≤ n → Lib.splitK sep 0 (Lib.count s sep) s = F s := by
  intro n
  induction n with
  | zero =>
    intro s hs
    have : s = [] := List.length_eq_zero_iff.1 (by omega)
    subst this
    have hi : Lib.index [] sep = -1 := by cases sep with
      | nil => exact absurd rfl hsep
      | cons a t => rfl
    rw [Lib.count_miss hi, h1 _ hi]
    rfl
  | succ n ih =>
    intro s hs
    rcases Lib.index_spec s sep with ⟨hi, _⟩ | ⟨i, hi, hle, _, _⟩
    · rw [Lib.count_miss hi, h1 _ hi]
      rfl
    · have hroom := Lib.index_room s sep (by omega)
      have hpos : 0 < sep.length := List.length_pos_iff.2 hsep
      have hnn : (Lib.index s sep == -1) = false := by rw [beq_eq_false_iff_ne]; omega
      rw [Lib.count_hit hsep hi, Nat.add_comm 1, Lib.splitK, h2 _ _ hi, hnn]
      simp only [Bool.false_eq_true, if_false, hi, Int.toNat_natCast, Nat.add_zero]
      rw [ih _ (by rw [List.length_drop]; omega)]
theorem words_miss : ∀ s, Lib.index s [32] = -1 → wordsF s = [s]
  | [], _ => rfl
  | c :: r, h => by
    unfold Lib.index at h
    split at h
    · cases h
    · rename_i hp
      have hr : Lib.index r [32] = -1 := by
        split at h
        · rename_i hx; simpa using hx
        · have := Lib.index_ge r [32]; omega
      have hc : (c == 32) = false := by
        simp [List.isPrefixOf] at hp
        rw [beq_eq_false_iff_ne]
        exact fun e => hp e.symm
      rw [wordsF, hc, words_miss r hr]
      rfl
theorem words_hit : ∀ s (i : Nat), Lib.index s [32] = i → wordsF s = s.take i :: wordsF (s.drop (i + 1))
  | [], i, h => by
    have : Lib.index [] [32] = -1 := rfl
    omega
  | c :: r, i, h => by
    unfold Lib.index at h
    split at h
    · rename_i hp
      simp [List.isPrefixOf] at hp
      obtain rfl : i = 0 := by omega
      rw [wordsF, if_pos (by rw [← hp]; rfl)]
      rfl
    · rename_i hp
      have hc : (c == 32) = false := by
        simp [List.isPrefixOf] at hp
        rw [beq_eq_false_iff_ne]
        exact fun e => hp e.symm
      split at h
      · omega
      · cases i with
        | zero =>
          rename_i hx
          have := Lib.index_ge r [32]
          have hx' : Lib.index r [32] ≠ -1 := by simpa using hx
          omega
        | succ i =>
          rw [wordsF, hc, words_hit r i (by omega)]
          simp [preP]
theorem pieces_miss : ∀ s, Lib.index s [44, 32] = -1 → piecesF s = [s]
  | [], _ => rfl
  | [c], h => rfl
  | c :: d :: r, h => by
    unfold Lib.index at h
    split at h
    · cases h
    · rename_i hp
      have hr : Lib.index (d :: r) [44, 32] = -1 := by
        split at h
        · rename_i hx; simpa using hx
        · have := Lib.index_ge (d :: r) [44, 32]; omega
      have hc : (c == 44 && d == 32) = false := by
        simp [List.isPrefixOf] at hp
        rw [Bool.and_eq_false_imp]
        intro h1
        simp at h1
        rw [beq_eq_false_iff_ne]; exact fun e => hp h1.symm e.symm
      rw [piecesF, hc, pieces_miss (d :: r) hr]
      rfl
theorem pieces_hit : ∀ s (i : Nat), Lib.index s [44, 32] = i → piecesF s = s.take i :: piecesF (s.drop (i + 2))
  | [], i, h => by
    have : Lib.index [] [44, 32] = -1 := rfl
    omega
  | [c], i, h => by
    have : Lib.index [c] [44, 32] = -1 := by
      unfold Lib.index
      rw [if_neg (by simp [List.isPrefixOf])]
      rfl
    omega
  | c :: d :: r, i, h => by
    unfold Lib.index at h
    split at h
    · rename_i hp
      simp [List.isPrefixOf] at hp
      obtain rfl : i = 0 := by omega
      rw [piecesF, if_pos (by rw [← hp.1, ← hp.2]; rfl)]
      rfl
    · rename_i hp
      have hc : (c == 44 && d == 32) = false := by
        simp [List.isPrefixOf] at hp
        rw [Bool.and_eq_false_imp]
        intro h1
        simp at h1
        rw [beq_eq_false_iff_ne]; exact fun e => hp h1.symm e.symm
      split at h
      · omega
      · cases i with
        | zero =>
          rename_i hx
          have := Lib.index_ge (d :: r) [44, 32]
          have hx' : Lib.index (d :: r) [44, 32] ≠ -1 := by simpa using hx
          omega
        | succ i =>
          rw [piecesF, hc, pieces_hit (d :: r) i (by omega)]
          simp [preP]
theorem split_words (s : List UInt8) : Lib.splitK [32] 0 (Lib.count s [32]) s = wordsF s := split_is [32] (by simp) wordsF words_miss words_hit _ s (Nat.le_refl _)
theorem split_pieces (s : List UInt8) : Lib.splitK [44, 32] 0 (Lib.count s [44, 32]) s = piecesF s := split_is [44, 32] (by simp) piecesF pieces_miss pieces_hit _ s (Nat.le_refl _)

def noSp (l : List UInt8) : Prop := (32 : UInt8) ∉ l
theorem words_pre : ∀ (x r : List UInt8), noSp x → wordsF (x ++ r) = preP x (wordsF r)
  | [], r, _ => (preP_nil _ (wordsF_ne r)).symm
  | c :: x, r, h => by
    unfold noSp at h
    rw [List.mem_cons, not_or] at h
    have hc : (c == 32) = false := by rw [beq_eq_false_iff_ne]; exact fun e => h.1 e.symm
    rw [List.cons_append, wordsF, hc, words_pre x r h.2]
    simp only [Bool.false_eq_true, if_false]
    rw [preP_preP _ _ _ (wordsF_ne r)]
    rfl
theorem words_join : ∀ (ws : List (List UInt8)), ws ≠ [] → (∀ x ∈ ws, noSp x) → wordsF (Lib.join ws [32]) = ws
  | [], h, _ => absurd rfl h
  | [x], _, h => by
    rw [Lib.join_one]
    have := words_pre x [] (h x (by simp))
    rw [List.append_nil] at this
    rw [this]
    simp [wordsF, preP]
  | x :: y :: ws, _, h => by
    rw [Lib.join_cons]
    have hj : Lib.joinTail [32] (y :: ws) = 32 :: Lib.join (y :: ws) [32] := by rw [Lib.join_cons]; simp [Lib.joinTail]
    rw [hj, words_pre x _ (h x (by simp)), wordsF, if_pos (by rfl), words_join (y :: ws) (by simp) (fun z hz => h z (by simp [hz]))]
    simp [preP]
theorem pieces_pre : ∀ (x r : List UInt8), noSp x → r.head? ≠ some 32 → piecesF (x ++ r) = preP x (piecesF r)
  | [], r, _, _ => (preP_nil _ (piecesF_ne r)).symm
  | [c], [], _, _ => by simp [piecesF, preP]
  | [c], d :: r, h, hr => by
    have hd : (d == 32) = false := by
      rw [beq_eq_false_iff_ne]
      rintro rfl
      exact hr rfl
    rw [List.singleton_append, piecesF, hd, Bool.and_false]
    rfl
  | c :: e :: x, r, h, hr => by
    unfold noSp at h
    rw [List.mem_cons, not_or] at h
    have he : (e == 32) = false := by
      rw [beq_eq_false_iff_ne]
      rintro rfl
      exact h.2 (by simp)
    rw [List.cons_append, List.cons_append, piecesF, he, Bool.and_false]
    have := pieces_pre (e :: x) r h.2 hr
    rw [List.cons_append] at this
    simp only [Bool.false_eq_true, if_false]
    rw [this, preP_preP _ _ _ (piecesF_ne r)]
    rfl
theorem pieces_join : ∀ (ws : List (List UInt8)), ws ≠ [] → (∀ x ∈ ws, noSp x) → piecesF (Lib.join ws [44, 32]) = ws
  | [], h, _ => absurd rfl h
  | [x], _, h => by
    rw [Lib.join_one]
    have := pieces_pre x [] (h x (by simp)) (by simp)
    rw [List.append_nil] at this
    rw [this]
    simp [piecesF, preP]
  | x :: y :: ws, _, h => by
    rw [Lib.join_cons]
    have hj : Lib.joinTail [44, 32] (y :: ws) = 44 :: 32 :: Lib.join (y :: ws) [44, 32] := by rw [Lib.join_cons]; simp [Lib.joinTail]
    rw [hj, pieces_pre x _ (h x (by simp)) (by simp), piecesF, if_pos (by rfl), pieces_join (y :: ws) (by simp) (fun z hz => h z (by simp [hz]))]
    simp [preP]
end Go.Proofs.YtmplpbdldcokjaaGreatDoor
