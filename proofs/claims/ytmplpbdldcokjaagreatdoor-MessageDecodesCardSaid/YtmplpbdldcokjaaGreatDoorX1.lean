/- Merged texts: Messages, plain: a text as one word, and back. Messages, plain: pieces of a text, the line of a message and its parts. Messages, plain: what Check, Encode and Decode give. -/
import Derived.Test.YtmplpbdldcokjaaGreatDoorXa
import Derived.Lib.Bytealg
import Derived.Test.YtmplpbdldcokjaaGreatDoorX2
import Derived.Lib.Split
import Derived.Lib.SplitLaws
import Derived.Lib.AtoiAll
import Derived.Test.YtmplpbdldcokjaaGreatDoorGt
import Derived.Lib.AtoiAllCases
import Derived.Lib.ItoaNum
namespace Go.Proofs.YtmplpbdldcokjaaGreatDoor
/- Messages, plain: a text as one word, and back. -/
section
open Go
set_option linter.unusedSimpArgs false

/-- the bytes that stay in a word -/
def plainB (n : Int) : Bool := lowerB n || upperB n || digitB n || n == 40 || n == 41 || n == 44 || n == 46 || n == 45
def hexC (n : Nat) : UInt8 := UInt8.ofNat (if n < 10 then 48 + n else 87 + n)
def hexV (n : Int) : Int := if digitB n then n - 48 else if decide (97 ≤ n) && decide (n ≤ 102) then n - 87 else -1
def escC (c : UInt8) : List UInt8 := if plainB (bInt c) then [c] else [37, hexC (c.toNat / 16), hexC (c.toNat % 16)]
def escA (l : List UInt8) : List UInt8 := l.flatMap escC
def escT (l : List UInt8) : List UInt8 := if l.isEmpty then [37] else escA l
/-- what is left and what is out after bytes, as the program reads them -/
def unG : List UInt8 → Int → Int → List UInt8 → Option (Int × List UInt8)
  | [], _, k, out => some (k, out)
  | c :: r, v, k, out =>
    if decide (0 < k) then
      (if decide ((if decide (bInt c < 128) then hexV (bInt c) else -1) < 0) then none
       else if k - 1 == 0 then unG r (v * 16 + hexV (bInt c)) (k - 1) (out ++ [UInt8.ofNat (v * 16 + hexV (bInt c)).toNat])
       else unG r (v * 16 + hexV (bInt c)) (k - 1) out)
    else if bInt c == 37 then unG r 0 2 out
    else if decide (bInt c < 128) && plainB (bInt c) then unG r v k (out ++ [c])
    else none
def unT (s : List UInt8) : Option (List UInt8) :=
  if s == [37] then some [] else
  match unG s 0 0 [] with
  | none => none
  | some (k, out) => if decide (0 < k) || !(escT out == s) then none else some out
/-- the same as the reference reads them -/
def unH : List UInt8 → List UInt8 → Option (List UInt8)
  | [], out => some out
  | c :: r, out =>
    if bInt c == 37 then
      match r with
      | a :: b :: r' => if decide (hexV (bInt a) < 0) || decide (hexV (bInt b) < 0) then none else unH r' (out ++ [UInt8.ofNat (16 * hexV (bInt a) + hexV (bInt b)).toNat])
      | _ => none
    else unH r (out ++ [c])
def unR (s : List UInt8) : Option (List UInt8) :=
  if s == [37] then some [] else
  match unH s [] with
  | none => none
  | some out => if escT out == s then some out else none

theorem u8_all {p : UInt8 → Bool} (h : ∀ i : Fin 256, p (UInt8.ofNat i.val) = true) (c : UInt8) : p c = true := by
  have := h ⟨c.toNat, c.toNat_lt⟩
  simpa using this
theorem hex_hi (c : UInt8) : hexV (bInt (hexC (c.toNat / 16))) = ((c.toNat / 16 : Nat) : Int) ∧ bInt (hexC (c.toNat / 16)) < 128 := by
  have := u8_all (p := fun c => decide (hexV (bInt (hexC (c.toNat / 16))) = ((c.toNat / 16 : Nat) : Int) ∧ bInt (hexC (c.toNat / 16)) < 128)) (by decide +kernel) c
  simpa using this
theorem hex_lo (c : UInt8) : hexV (bInt (hexC (c.toNat % 16))) = ((c.toNat % 16 : Nat) : Int) ∧ bInt (hexC (c.toNat % 16)) < 128 := by
  have := u8_all (p := fun c => decide (hexV (bInt (hexC (c.toNat % 16))) = ((c.toNat % 16 : Nat) : Int) ∧ bInt (hexC (c.toNat % 16)) < 128)) (by decide +kernel) c
  simpa using this
theorem plain_ne (c : UInt8) (h : plainB (bInt c) = true) : (bInt c == 37) = false ∧ decide (bInt c < 128) = true := by
  have := u8_all (p := fun c => !plainB (bInt c) || (!(bInt c == 37) && decide (bInt c < 128))) (by decide +kernel) c
  rw [h] at this
  simpa using this
theorem b37 : (bInt 37 == 37) = true := by decide
theorem back16 (c : UInt8) : UInt8.ofNat (((0 : Int) * 16 + ((c.toNat / 16 : Nat) : Int)) * 16 + ((c.toNat % 16 : Nat) : Int)).toNat = c := by
  have h : (((0 : Int) * 16 + ((c.toNat / 16 : Nat) : Int)) * 16 + ((c.toNat % 16 : Nat) : Int)).toNat = c.toNat := by omega
  rw [h]; simp
theorem back16' (c : UInt8) : UInt8.ofNat ((16 : Int) * ((c.toNat / 16 : Nat) : Int) + ((c.toNat % 16 : Nat) : Int)).toNat = c := by
  have h : ((16 : Int) * ((c.toNat / 16 : Nat) : Int) + ((c.toNat % 16 : Nat) : Int)).toNat = c.toNat := by omega
  rw [h]; simp
theorem escA_cons (c : UInt8) (l : List UInt8) : escA (c :: l) = escC c ++ escA l := by simp [escA]
theorem escA_snoc (l : List UInt8) (c : UInt8) : escA (l ++ [c]) = escA l ++ escC c := by simp [escA]

theorem unG_plain (c : UInt8) (r : List UInt8) (v : Int) (out : List UInt8) (h : plainB (bInt c) = true) : unG (c :: r) v 0 out = unG r v 0 (out ++ [c]) := by
  obtain ⟨h1, h2⟩ := plain_ne c h
  rw [unG]
  simp [h1, h2, h]
theorem unG_esc (c : UInt8) (r : List UInt8) (v : Int) (out : List UInt8) : ∃ v', unG (37 :: hexC (c.toNat / 16) :: hexC (c.toNat % 16) :: r) v 0 out = unG r v' 0 (out ++ [c]) := by
  obtain ⟨a1, a2⟩ := hex_hi c
  obtain ⟨b1, b2⟩ := hex_lo c
  refine ⟨((0 : Int) * 16 + ((c.toNat / 16 : Nat) : Int)) * 16 + ((c.toNat % 16 : Nat) : Int), ?_⟩
  rw [unG, if_neg (by decide), if_pos b37, unG, if_pos (by decide), decide_eq_true a2, if_pos rfl, a1, if_neg (by simp; omega), if_neg (by decide), unG, if_pos (by decide), decide_eq_true b2, if_pos rfl, b1, if_neg (by simp; omega), if_pos (by decide), back16]
  rfl
theorem unG_escA : ∀ (l r : List UInt8) (v : Int) (out : List UInt8), ∃ v', unG (escA l ++ r) v 0 out = unG r v' 0 (out ++ l)
  | [], r, v, out => ⟨v, by simp [escA]⟩
  | c :: l, r, v, out => by
    rw [escA_cons, List.append_assoc]
    unfold escC
    cases h : plainB (bInt c) with
    | true =>
      rw [if_pos rfl, List.singleton_append, unG_plain c _ _ _ h]
      obtain ⟨v', hv⟩ := unG_escA l r v (out ++ [c])
      exact ⟨v', by rw [hv]; simp⟩
    | false =>
      rw [if_neg Bool.false_ne_true]
      obtain ⟨v1, h1⟩ := unG_esc c (escA l ++ r) v out
      obtain ⟨v', hv⟩ := unG_escA l r v1 (out ++ [c])
      exact ⟨v', by rw [show [37, hexC (c.toNat / 16), hexC (c.toNat % 16)] ++ (escA l ++ r) = 37 :: hexC (c.toNat / 16) :: hexC (c.toNat % 16) :: (escA l ++ r) from rfl, h1, hv]; simp⟩
theorem escA_ne {l : List UInt8} (h : l ≠ []) : escA l ≠ [37] := by
  cases l with
  | nil => exact absurd rfl h
  | cons c l =>
    rw [escA_cons]
    unfold escC
    cases hp : plainB (bInt c) with
    | true =>
      rw [if_pos rfl]
      intro he
      injection he with h1 h2
      subst h1
      exact absurd hp (by decide)
    | false => rw [if_neg Bool.false_ne_true]; simp
theorem escT_ne {l : List UInt8} (h : l ≠ []) : escT l = escA l := by
  unfold escT
  cases l with
  | nil => exact absurd rfl h
  | cons c l => rfl
theorem unT_iff (s l : List UInt8) : unT s = some l ↔ escT l = s := by
  unfold unT
  by_cases h37 : s = [37]
  · subst h37
    rw [if_pos (by rfl)]
    constructor
    · intro h
      injection h with h
      subst h
      rfl
    · intro h
      by_cases hl : l = []
      · rw [hl]
      · rw [escT_ne hl] at h
        exact absurd h (escA_ne hl)
  · rw [if_neg (by simpa using h37)]
    constructor
    · intro h
      split at h
      · cases h
      · rename_i k out hg
        split at h
        · cases h
        · rename_i hc
          injection h with h
          subst h
          simp at hc
          exact hc.2
    · intro h
      have hl : l ≠ [] := by
        rintro rfl
        exact h37 h.symm
      rw [escT_ne hl] at h
      obtain ⟨v', hv⟩ := unG_escA l [] 0 []
      rw [List.append_nil, h, List.nil_append, unG] at hv
      rw [hv]
      simp [escT_ne hl, h]
theorem unH_ne (c : UInt8) (r out : List UInt8) (h : (bInt c == 37) = false) : unH (c :: r) out = unH r (out ++ [c]) := by
  match r with
  | [] => simp [unH, h]
  | [a] => simp [unH, h]
  | a :: b :: r' => rw [unH, if_neg (by rw [h]; decide)]
theorem unH_escA : ∀ (l r out : List UInt8), unH (escA l ++ r) out = unH r (out ++ l)
  | [], r, out => by simp [escA]
  | c :: l, r, out => by
    rw [escA_cons, List.append_assoc]
    unfold escC
    cases h : plainB (bInt c) with
    | true =>
      rw [if_pos rfl, List.singleton_append, unH_ne _ _ _ (plain_ne c h).1, unH_escA l r]
      simp
    | false =>
      rw [if_neg Bool.false_ne_true]
      rw [show [37, hexC (c.toNat / 16), hexC (c.toNat % 16)] ++ (escA l ++ r) = 37 :: hexC (c.toNat / 16) :: hexC (c.toNat % 16) :: (escA l ++ r) from rfl, unH, if_pos b37]
      simp only [(hex_hi c).1, (hex_lo c).1]
      rw [if_neg (by simp; omega), back16', unH_escA l r]
      simp
theorem unR_iff (s l : List UInt8) : unR s = some l ↔ escT l = s := by
  unfold unR
  by_cases h37 : s = [37]
  · subst h37
    rw [if_pos (by rfl)]
    constructor
    · intro h
      injection h with h
      subst h
      rfl
    · intro h
      by_cases hl : l = []
      · rw [hl]
      · rw [escT_ne hl] at h
        exact absurd h (escA_ne hl)
  · rw [if_neg (by simpa using h37)]
    constructor
    · intro h
      split at h
      · cases h
      · rename_i out hg
        split at h
        · rename_i hc
          injection h with h
          subst h
          simpa using hc
        · cases h
    · intro h
      have hl : l ≠ [] := by
        rintro rfl
        exact h37 h.symm
      rw [escT_ne hl] at h
      have hv := unH_escA l [] []
      rw [List.append_nil, h, List.nil_append, unH] at hv
      rw [hv]
      simp [escT_ne hl, h]
theorem unR_eq (s : List UInt8) : unR s = unT s := by
  cases h : unT s with
  | some l => rw [unR_iff, ← unT_iff, h]
  | none =>
    cases h2 : unR s with
    | none => rfl
    | some l => rw [unR_iff, ← unT_iff, h] at h2; cases h2
theorem unT_escT (l : List UInt8) : unT (escT l) = some l := (unT_iff _ _).2 rfl
theorem escC_len (c : UInt8) : 1 ≤ (escC c).length ∧ (escC c).length ≤ 3 := by unfold escC; split <;> simp
theorem escA_len (l : List UInt8) : l.length ≤ (escA l).length ∧ (escA l).length ≤ 3 * l.length := by
  induction l with
  | nil => simp [escA]
  | cons c l ih =>
    have := escC_len c
    rw [escA_cons, List.length_append, List.length_cons]
    omega
theorem escT_len (l : List UInt8) : 1 ≤ (escT l).length ∧ (escT l).length ≤ 3 * l.length + 1 ∧ (l ≠ [] → (escT l).length ≤ 3 * l.length) := by
  by_cases h : l = []
  · subst h; simp [escT]
  · rw [escT_ne h]
    have := escA_len l
    have : 0 < l.length := List.length_pos_iff.2 h
    exact ⟨by omega, by omega, fun _ => by omega⟩
/-- bytes of words -/
def inkB (n : Int) : Bool := decide (33 ≤ n) && decide (n ≤ 126)
theorem escC_ink (c : UInt8) : (escC c).all (fun c => inkB (bInt c)) = true := by
  exact u8_all (p := fun c => (escC c).all (fun c => inkB (bInt c))) (by decide +kernel) c
theorem escA_ink (l : List UInt8) : (escA l).all (fun c => inkB (bInt c)) = true := by
  induction l with
  | nil => rfl
  | cons c l ih => rw [escA_cons, List.all_append, escC_ink, ih]; rfl
theorem escT_ink (l : List UInt8) : (escT l).all (fun c => inkB (bInt c)) = true := by
  by_cases h : l = []
  · subst h; decide
  · rw [escT_ne h]; exact escA_ink l

end
/- Messages, plain: pieces of a text, the line of a message and its parts. -/
section
open Go
set_option linter.unusedSimpArgs false

/-- a beginning put ahead of the first piece -/
def preP (x : List UInt8) : List (List UInt8) → List (List UInt8)
  | [] => [x]
  | y :: l => (x ++ y) :: l
/-- the pieces between blanks -/
def wordsF : List UInt8 → List (List UInt8)
  | [] => [[]]
  | c :: r => if c == 32 then [] :: wordsF r else preP [c] (wordsF r)
/-- the pieces between commas with a blank -/
def piecesF : List UInt8 → List (List UInt8)
  | [] => [[]]
  | c :: [] => [[c]]
  | c :: d :: r => if c == 44 && d == 32 then [] :: piecesF r else preP [c] (piecesF (d :: r))
theorem preP_nil (l : List (List UInt8)) (h : l ≠ []) : preP [] l = l := by cases l <;> simp_all [preP]
theorem preP_preP (x y : List UInt8) (l : List (List UInt8)) (h : l ≠ []) : preP x (preP y l) = preP (x ++ y) l := by cases l <;> simp_all [preP]
theorem preP_ne (x : List UInt8) (l : List (List UInt8)) : preP x l ≠ [] := by cases l <;> simp [preP]
theorem wordsF_ne (s : List UInt8) : wordsF s ≠ [] := by
  cases s with
  | nil => simp [wordsF]
  | cons c r => rw [wordsF]; split
                · simp
                · exact preP_ne _ _
theorem piecesF_ne (s : List UInt8) : piecesF s ≠ [] := by
  match s with
  | [] => simp [piecesF]
  | [c] => simp [piecesF]
  | c :: d :: r => rw [piecesF]; split
                   · simp
                   · exact preP_ne _ _
/-- a way to cut that follows the first place of the separator is strings.Split -/
theorem split_is (sep : List UInt8) (hsep : sep ≠ []) (F : List UInt8 → List (List UInt8)) (h1 : ∀ s, Lib.index s sep = -1 → F s = [s]) (h2 : ∀ s (i : Nat), Lib.index s sep = i → F s = s.take i :: F (s.drop (i + sep.length))) :
    ∀ (n : Nat) (s : List UInt8), s.length ≤ n → Lib.splitK sep 0 (Lib.count s sep) s = F s := by
  intro n
  induction n with
  | zero =>
    intro s hs
    have : s = [] := List.length_eq_zero_iff.1 (by omega)
    subst this
    have hi : Lib.index [] sep = -1 := by cases sep with
      | nil => exact absurd rfl hsep
      | cons a t => rfl
    rw [Lib.count_miss hi, h1 _ hi]
    rfl
  | succ n ih =>
    intro s hs
    rcases Lib.index_spec s sep with ⟨hi, _⟩ | ⟨i, hi, hle, _, _⟩
    · rw [Lib.count_miss hi, h1 _ hi]
      rfl
    · have hroom := Lib.index_room s sep (by omega)
      have hpos : 0 < sep.length := List.length_pos_iff.2 hsep
      have hnn : (Lib.index s sep == -1) = false := by rw [beq_eq_false_iff_ne]; omega
      rw [Lib.count_hit hsep hi, Nat.add_comm 1, Lib.splitK, h2 _ _ hi, hnn]
      simp only [Bool.false_eq_true, if_false, hi, Int.toNat_natCast, Nat.add_zero]
      rw [ih _ (by rw [List.length_drop]; omega)]
theorem words_miss : ∀ s, Lib.index s [32] = -1 → wordsF s = [s]
  | [], _ => rfl
  | c :: r, h => by
    unfold Lib.index at h
    split at h
    · cases h
    · rename_i hp
      have hr : Lib.index r [32] = -1 := by
        split at h
        · rename_i hx; simpa using hx
        · have := Lib.index_ge r [32]; omega
      have hc : (c == 32) = false := by
        simp [List.isPrefixOf] at hp
        rw [beq_eq_false_iff_ne]
        exact fun e => hp e.symm
      rw [wordsF, hc, words_miss r hr]
      rfl
theorem words_hit : ∀ s (i : Nat), Lib.index s [32] = i → wordsF s = s.take i :: wordsF (s.drop (i + 1))
  | [], i, h => by
    have : Lib.index [] [32] = -1 := rfl
    omega
  | c :: r, i, h => by
    unfold Lib.index at h
    split at h
    · rename_i hp
      simp [List.isPrefixOf] at hp
      obtain rfl : i = 0 := by omega
      rw [wordsF, if_pos (by rw [← hp]; rfl)]
      rfl
    · rename_i hp
      have hc : (c == 32) = false := by
        simp [List.isPrefixOf] at hp
        rw [beq_eq_false_iff_ne]
        exact fun e => hp e.symm
      split at h
      · omega
      · cases i with
        | zero =>
          rename_i hx
          have := Lib.index_ge r [32]
          have hx' : Lib.index r [32] ≠ -1 := by simpa using hx
          omega
        | succ i =>
          rw [wordsF, hc, words_hit r i (by omega)]
          simp [preP]
theorem pieces_miss : ∀ s, Lib.index s [44, 32] = -1 → piecesF s = [s]
  | [], _ => rfl
  | [c], h => rfl
  | c :: d :: r, h => by
    unfold Lib.index at h
    split at h
    · cases h
    · rename_i hp
      have hr : Lib.index (d :: r) [44, 32] = -1 := by
        split at h
        · rename_i hx; simpa using hx
        · have := Lib.index_ge (d :: r) [44, 32]; omega
      have hc : (c == 44 && d == 32) = false := by
        simp [List.isPrefixOf] at hp
        rw [Bool.and_eq_false_imp]
        intro h1
        simp at h1
        rw [beq_eq_false_iff_ne]; exact fun e => hp h1.symm e.symm
      rw [piecesF, hc, pieces_miss (d :: r) hr]
      rfl
theorem pieces_hit : ∀ s (i : Nat), Lib.index s [44, 32] = i → piecesF s = s.take i :: piecesF (s.drop (i + 2))
  | [], i, h => by
    have : Lib.index [] [44, 32] = -1 := rfl
    omega
  | [c], i, h => by
    have : Lib.index [c] [44, 32] = -1 := by
      unfold Lib.index
      rw [if_neg (by simp [List.isPrefixOf])]
      rfl
    omega
  | c :: d :: r, i, h => by
    unfold Lib.index at h
    split at h
    · rename_i hp
      simp [List.isPrefixOf] at hp
      obtain rfl : i = 0 := by omega
      rw [piecesF, if_pos (by rw [← hp.1, ← hp.2]; rfl)]
      rfl
    · rename_i hp
      have hc : (c == 44 && d == 32) = false := by
        simp [List.isPrefixOf] at hp
        rw [Bool.and_eq_false_imp]
        intro h1
        simp at h1
        rw [beq_eq_false_iff_ne]; exact fun e => hp h1.symm e.symm
      split at h
      · omega
      · cases i with
        | zero =>
          rename_i hx
          have := Lib.index_ge (d :: r) [44, 32]
          have hx' : Lib.index (d :: r) [44, 32] ≠ -1 := by simpa using hx
          omega
        | succ i =>
          rw [piecesF, hc, pieces_hit (d :: r) i (by omega)]
          simp [preP]
theorem split_words (s : List UInt8) : Lib.splitK [32] 0 (Lib.count s [32]) s = wordsF s := split_is [32] (by simp) wordsF words_miss words_hit _ s (Nat.le_refl _)
theorem split_pieces (s : List UInt8) : Lib.splitK [44, 32] 0 (Lib.count s [44, 32]) s = piecesF s := split_is [44, 32] (by simp) piecesF pieces_miss pieces_hit _ s (Nat.le_refl _)

def noSp (l : List UInt8) : Prop := (32 : UInt8) ∉ l
theorem words_pre : ∀ (x r : List UInt8), noSp x → wordsF (x ++ r) = preP x (wordsF r)
  | [], r, _ => (preP_nil _ (wordsF_ne r)).symm
  | c :: x, r, h => by
    unfold noSp at h
    rw [List.mem_cons, not_or] at h
    have hc : (c == 32) = false := by rw [beq_eq_false_iff_ne]; exact fun e => h.1 e.symm
    rw [List.cons_append, wordsF, hc, words_pre x r h.2]
    simp only [Bool.false_eq_true, if_false]
    rw [preP_preP _ _ _ (wordsF_ne r)]
    rfl
theorem words_join : ∀ (ws : List (List UInt8)), ws ≠ [] → (∀ x ∈ ws, noSp x) → wordsF (Lib.join ws [32]) = ws
  | [], h, _ => absurd rfl h
  | [x], _, h => by
    rw [Lib.join_one]
    have := words_pre x [] (h x (by simp))
    rw [List.append_nil] at this
    rw [this]
    simp [wordsF, preP]
  | x :: y :: ws, _, h => by
    rw [Lib.join_cons]
    have hj : Lib.joinTail [32] (y :: ws) = 32 :: Lib.join (y :: ws) [32] := by rw [Lib.join_cons]; simp [Lib.joinTail]
    rw [hj, words_pre x _ (h x (by simp)), wordsF, if_pos (by rfl), words_join (y :: ws) (by simp) (fun z hz => h z (by simp [hz]))]
    simp [preP]
theorem pieces_pre : ∀ (x r : List UInt8), noSp x → r.head? ≠ some 32 → piecesF (x ++ r) = preP x (piecesF r)
  | [], r, _, _ => (preP_nil _ (piecesF_ne r)).symm
  | [c], [], _, _ => by simp [piecesF, preP]
  | [c], d :: r, h, hr => by
    have hd : (d == 32) = false := by
      rw [beq_eq_false_iff_ne]
      rintro rfl
      exact hr rfl
    rw [List.singleton_append, piecesF, hd, Bool.and_false]
    rfl
  | c :: e :: x, r, h, hr => by
    unfold noSp at h
    rw [List.mem_cons, not_or] at h
    have he : (e == 32) = false := by
      rw [beq_eq_false_iff_ne]
      rintro rfl
      exact h.2 (by simp)
    rw [List.cons_append, List.cons_append, piecesF, he, Bool.and_false]
    have := pieces_pre (e :: x) r h.2 hr
    rw [List.cons_append] at this
    simp only [Bool.false_eq_true, if_false]
    rw [this, preP_preP _ _ _ (piecesF_ne r)]
    rfl
theorem pieces_join : ∀ (ws : List (List UInt8)), ws ≠ [] → (∀ x ∈ ws, noSp x) → piecesF (Lib.join ws [44, 32]) = ws
  | [], h, _ => absurd rfl h
  | [x], _, h => by
    rw [Lib.join_one]
    have := pieces_pre x [] (h x (by simp)) (by simp)
    rw [List.append_nil] at this
    rw [this]
    simp [piecesF, preP]
  | x :: y :: ws, _, h => by
    rw [Lib.join_cons]
    have hj : Lib.joinTail [44, 32] (y :: ws) = 44 :: 32 :: Lib.join (y :: ws) [44, 32] := by rw [Lib.join_cons]; simp [Lib.joinTail]
    rw [hj, pieces_pre x _ (h x (by simp)) (by simp), piecesF, if_pos (by rfl), pieces_join (y :: ws) (by simp) (fun z hz => h z (by simp [hz]))]
    simp [preP]

end
/- Messages, plain: what Check, Encode and Decode give. -/
section
open Go
set_option linter.unusedSimpArgs false

def I64 (n : Int) : Prop := -9223372036854775808 ≤ n ∧ n ≤ 9223372036854775807
/-- a message -/
structure Ms where
  kind : Int
  mat : List UInt8
  role : Tm
  sc : Int
  pc : Int
  moves : List Tm
  percepts : List Tm
  text : List UInt8
def ms0 : Ms := ⟨0, [], .mk [] [], 0, 0, [], [], []⟩
def groundF (l : List Tm) : Bool := l.all (validT false 4)
def checkF (m : Ms) : Int :=
  if m.kind < 1 ∨ 7 < m.kind then 20
  else if (m.kind ≤ 4 ∧ nameF m.mat = false) ∨ (m.kind = 1 ∧ (nameF m.role.name = false ∨ 0 < m.role.args.length)) then 4
  else if m.kind = 1 ∧ (m.sc < 1 ∨ 1000 < m.sc ∨ m.pc < 1 ∨ 1000 < m.pc) then 12
  else if (4 < m.kind ∧ m.mat ≠ []) ∨ (m.kind ≠ 1 ∧ (m.role.name ≠ [] ∨ 0 < m.role.args.length ∨ m.sc ≠ 0 ∨ m.pc ≠ 0 ∨ m.text ≠ [])) then 13
  else if (m.kind ≠ 2 ∧ m.kind ≠ 3 ∧ 0 < m.percepts.length) ∨ (m.kind ≠ 2 ∧ m.kind ≠ 3 ∧ m.kind ≠ 6 ∧ 0 < m.moves.length) then 13
  else if ((m.kind = 2 ∨ m.kind = 3) ∧ 1 < m.moves.length) ∨ (m.kind = 6 ∧ m.moves.length ≠ 1) ∨ groundF m.moves = false ∨ groundF m.percepts = false then 13
  else if 16384 < m.text.length then 2 else 0
def termsT (l : List Tm) : List UInt8 := Lib.join (txs l) [44, 32]
def wStart : List UInt8 := [115, 116, 97, 114, 116]
def wPlay : List UInt8 := [112, 108, 97, 121]
def wStop : List UInt8 := [115, 116, 111, 112]
def wAbort : List UInt8 := [97, 98, 111, 114, 116]
def wReady : List UInt8 := [114, 101, 97, 100, 121]
def wMove : List UInt8 := [109, 111, 118, 101]
def wDone : List UInt8 := [100, 111, 110, 101]
/-- the words of a message -/
def encW (m : Ms) : List (List UInt8) :=
  if m.kind = 1 then [wStart, m.mat, m.role.name, Lib.itoa m.sc, Lib.itoa m.pc, escT m.text]
  else if m.kind = 2 then [wPlay, m.mat, escT (termsT m.moves), escT (termsT m.percepts)]
  else if m.kind = 3 then [wStop, m.mat, escT (termsT m.moves), escT (termsT m.percepts)]
  else if m.kind = 4 then [wAbort, m.mat]
  else if m.kind = 5 then [wReady]
  else if m.kind = 6 then [wMove, escT (termsT m.moves)]
  else [wDone]
def encF (m : Ms) : List UInt8 := Lib.join (encW m) [32]

def atoiO (l : List UInt8) : Option Int := match Lib.atoiAll l with | .ok n => some n | _ => none
def termO (l : List UInt8) : Option Tm := match termRF l with | .ok t => some t | .err _ _ => none
def allO : List (List UInt8) → Option (List Tm)
  | [] => some []
  | x :: r => match termO x, allO r with
    | some t, some l => some (t :: l)
    | _, _ => none
def itemsF (s : List UInt8) : Option (List Tm) := if s.isEmpty then some [] else allO (piecesF s)
def termsP (s : List UInt8) : Option (List Tm) := (unT s).bind itemsF
def numO (l : List (List UInt8)) : Option Int := l.head?.bind atoiO
def txO (l : List (List UInt8)) : Option (List UInt8) := l.head?.bind unT
def tmO (l : List (List UInt8)) : Option (List Tm) := l.head?.bind termsP
def listP (k : Int) (l : List (List UInt8)) : Option Ms :=
  match l.head?, tmO l.tail, tmO l.tail.tail with
  | some a, some x, some y => some ⟨k, a, .mk [] [], 0, 0, x, y, []⟩
  | _, _, _ => none
/-- what the program reads -/
def readP (k : List UInt8) (l : List (List UInt8)) : Option Ms :=
  if k = wStart then
    match l.head?, l.tail.head?, numO l.tail.tail, numO l.tail.tail.tail, txO l.tail.tail.tail.tail with
    | some a, some b, some c, some d, some t => some ⟨1, a, .mk b [], c, d, [], [], t⟩
    | _, _, _, _, _ => none
  else if k = wPlay then listP 2 l
  else if k = wStop then listP 3 l
  else if k = wAbort then l.head?.map fun a => ⟨4, a, .mk [] [], 0, 0, [], [], []⟩
  else if k = wReady then some ⟨5, [], .mk [] [], 0, 0, [], [], []⟩
  else if k = wMove then (tmO l).map fun x => ⟨6, [], .mk [] [], 0, 0, x, [], []⟩
  else if k = wDone then some ⟨7, [], .mk [] [], 0, 0, [], [], []⟩
  else some ms0
def closeF (s : List UInt8) (m : Ms) : Option Ms := if checkF m = 0 ∧ encF m = s then some m else none
def decP (s : List UInt8) : Option Ms := (readP ((wordsF s).headD []) (wordsF s).tail).bind (closeF s)

/-- what the reference reads -/
def clkGo (n : Int) : List UInt8 → Int
  | [] => n
  | c :: r => if digitB (bInt c) then clkGo (10 * n + (bInt c - 48)) r else 0
def clkF (l : List UInt8) : Int := if l.length < 1 ∨ 9 < l.length then 0 else clkGo 0 l
def termsR (s : List UInt8) : List Tm := (termsP s).getD [.mk [] []]
def guessF : List (List UInt8) → Ms
  | [] => ms0
  | k :: l =>
    if k = wStart then (match l with | [a, b, c, d, e] => ⟨1, a, .mk b [], clkF c, clkF d, [], [], (unT e).getD []⟩ | _ => ms0)
    else if k = wPlay then (match l with | [a, b, c] => ⟨2, a, .mk [] [], 0, 0, termsR b, termsR c, []⟩ | _ => ms0)
    else if k = wStop then (match l with | [a, b, c] => ⟨3, a, .mk [] [], 0, 0, termsR b, termsR c, []⟩ | _ => ms0)
    else if k = wAbort then (match l with | [a] => ⟨4, a, .mk [] [], 0, 0, [], [], []⟩ | _ => ms0)
    else if k = wReady then ⟨5, [], .mk [] [], 0, 0, [], [], []⟩
    else if k = wMove then (match l with | [a] => ⟨6, [], .mk [] [], 0, 0, termsR a, [], []⟩ | _ => ms0)
    else if k = wDone then ⟨7, [], .mk [] [], 0, 0, [], [], []⟩
    else ms0
def decR (s : List UInt8) : Option Ms := closeF s (guessF (wordsF s))

/-! numbers -/
theorem dg_of {u : Nat} (h : u < 10) : bInt (UInt8.ofNat (48 + u)) = 48 + u := by unfold bInt; simp; omega
theorem dg_nat {u : Nat} (h : u < 10) : (UInt8.ofNat (48 + u)).toNat = 48 + u := by simp; omega
theorem decD_ind (P : Nat → List UInt8 → Prop) (h1 : ∀ u, u < 10 → P u [UInt8.ofNat (48 + u)]) (h2 : ∀ u, ¬ u < 10 → P (u / 10) (Lib.decDigits (u / 10)) → P u (Lib.decDigits (u / 10) ++ [UInt8.ofNat (48 + u % 10)])) : ∀ u, P u (Lib.decDigits u) := by
  intro u
  induction u using Nat.strongRecOn with
  | ind u ih =>
    by_cases h : u < 10
    · rw [Lib.decDigits, dif_pos h]; exact h1 u h
    · rw [Lib.decDigits, dif_neg h]; exact h2 u h (ih (u / 10) (by omega))
theorem decD_dg (u : Nat) : ∀ c ∈ Lib.decDigits u, digitB (bInt c) = true := by
  refine decD_ind (fun _ l => ∀ c ∈ l, digitB (bInt c) = true) ?_ ?_ u
  · intro u hu c hc
    simp only [List.mem_singleton] at hc
    subst hc
    rw [digitB_iff, dg_of hu]
    omega
  · intro u hu ih c hc
    rcases List.mem_append.1 hc with hc | hc
    · exact ih c hc
    · simp only [List.mem_singleton] at hc
      subst hc
      rw [digitB_iff, dg_of (by omega)]
      omega
theorem decD_ne (u : Nat) : Lib.decDigits u ≠ [] := decD_ind (fun _ l => l ≠ []) (fun _ _ => by simp) (fun _ _ _ => by simp) u
theorem pu_dec (u : Nat) : ∀ r, u < 18446744073709551616 → Lib.parseUint10 0 (Lib.decDigits u ++ r) = Lib.parseUint10 u r := by
  refine decD_ind (fun u l => ∀ r, u < 18446744073709551616 → Lib.parseUint10 0 (l ++ r) = Lib.parseUint10 u r) ?_ ?_ u
  · intro u hu r _
    rw [List.singleton_append, Lib.parseUint10, dg_nat hu, if_pos (by omega), if_neg (by omega), if_neg (by omega)]
    congr 1
    omega
  · intro u hu ih r hr
    rw [List.append_assoc, ih _ (by omega), List.singleton_append, Lib.parseUint10, dg_nat (by omega), if_pos (by omega), if_neg (by omega), if_neg (by omega)]
    congr 1
    omega
theorem itoa_nn {n : Int} (h : 0 ≤ n) : Lib.itoa n = Lib.decDigits n.natAbs := by
  unfold Lib.itoa
  rw [if_neg (by omega)]
  congr 1
  omega
theorem atoi_itoa (n : Int) (h0 : 1 ≤ n) (h1 : n ≤ 1000) : atoiO (Lib.itoa n) = some n := by
  have hm : Lib.parseMag (Lib.decDigits n.natAbs) = .ok n.natAbs := by
    unfold Lib.parseMag
    rw [if_neg (decD_ne _)]
    have := pu_dec n.natAbs [] (by omega)
    rw [List.append_nil] at this
    rw [this]
    rfl
  unfold atoiO
  rw [itoa_nn (by omega)]
  obtain ⟨c, r, hc⟩ := List.exists_cons_of_ne_nil (decD_ne n.natAbs)
  have hd := decD_dg n.natAbs c (by rw [hc]; simp)
  rw [digitB_iff] at hd
  unfold bInt at hd
  rw [hc] at hm ⊢
  rw [Lib.atoiAll_plain c r (by omega) (by omega), hm]
  have : (if 9223372036854775808 ≤ n.natAbs then Lib.NumEnd.range (α := Int) else .ok (n.natAbs : Int)) = .ok n := by
    rw [if_neg (by omega)]
    congr 1
    omega
  show (match (if 9223372036854775808 ≤ n.natAbs then Lib.NumEnd.range (α := Int) else .ok (n.natAbs : Int)) with | .ok n => some n | _ => none) = _
  rw [this]
theorem clkGo_dec (u : Nat) : ∀ r, clkGo 0 (Lib.decDigits u ++ r) = clkGo u r := by
  refine decD_ind (fun u l => ∀ r, clkGo 0 (l ++ r) = clkGo u r) ?_ ?_ u
  · intro u hu r
    rw [List.singleton_append, clkGo, dg_of hu, if_pos (by rw [digitB_iff]; omega)]
    congr 1
    omega
  · intro u hu ih r
    rw [List.append_assoc, ih, List.singleton_append, clkGo, dg_of (by omega), if_pos (by rw [digitB_iff]; omega)]
    congr 1
    omega
theorem decD_len {u : Nat} (k : Nat) : u < 10 ^ (k + 1) → (Lib.decDigits u).length ≤ k + 1 := by
  revert k
  refine decD_ind (fun u l => ∀ k, u < 10 ^ (k + 1) → l.length ≤ k + 1) ?_ ?_ u
  · intro u _ k _; simp
  · intro u hu ih k hk
    cases k with
    | zero => omega
    | succ k =>
      have := ih k (by rw [Nat.pow_succ] at hk; omega)
      simp; omega
theorem clk_itoa (n : Int) (h0 : 1 ≤ n) (h1 : n ≤ 1000) : clkF (Lib.itoa n) = n := by
  rw [itoa_nn (by omega)]
  unfold clkF
  have h1 : (Lib.decDigits n.natAbs).length ≤ 9 := decD_len 8 (by omega)
  have h2 : 0 < (Lib.decDigits n.natAbs).length := List.length_pos_iff.2 (decD_ne _)
  rw [if_neg (by omega)]
  have := clkGo_dec n.natAbs []
  rw [List.append_nil] at this
  rw [this, clkGo]
  omega

/-! texts of terms -/
theorem valid_mono : ∀ (d : Nat) (t : Tm), validT false d t = true → validT true d t = true := by
  intro d
  induction d with
  | zero => intro t h; rw [validT] at h; cases h
  | succ d ih =>
    intro t h
    obtain ⟨nm, l⟩ := t
    by_cases hl : l = []
    · subst hl
      rw [validT_leaf] at h ⊢
      simp at h ⊢
      rcases h with h | h <;> simp [h]
    · have hz : l.length ≠ 0 := by simpa using hl
      rw [validT_node hz] at h ⊢
      simp only [Bool.and_eq_true, List.all_eq_true] at h ⊢
      exact ⟨h.1, fun u hu => ih u (h.2 u hu)⟩
theorem term_back {t : Tm} (h : validT false 4 t = true) : termO (textT t) = some t := by
  have hv := valid_mono _ _ h
  have hlen : (textT t).length ≤ 16384 := Nat.le_trans (valid_t 4 t hv) (by decide)
  have hk := lexk_term 4 t hv [] _ (by rfl) LexK.nil
  rw [List.append_nil] at hk
  obtain ⟨ts, h1, h2⟩ := lexF_of hk hlen
  obtain ⟨r, h3, h4⟩ := term_reads 4 t hv ts _ (by rfl) h2
  unfold termO termRF readF
  rw [h1]
  simp only
  rw [h4, endF, if_pos (by rw [kind_hdK h3]; rfl)]
theorem sp_all {l : List UInt8} (h : l.all (fun c => !(bInt c == 32)) = true) : noSp l := by
  intro hm
  rw [List.all_eq_true] at h
  exact absurd (h 32 hm) (by decide)
theorem sp_run {l : List UInt8} (h : l.all (fun c => runB (bInt c)) = true) : l.all (fun c => !(bInt c == 32)) = true := by
  rw [List.all_eq_true] at h ⊢
  intro c hc
  have := h c hc
  cases h10 : bInt c == 32 with
  | false => rfl
  | true =>
    rw [beq_iff_eq] at h10
    rw [h10] at this
    exact absurd this (by decide)
theorem sp_rest (V : Tm → Prop) (H : ∀ t, V t → (textT t).all (fun c => !(bInt c == 32)) = true) : ∀ (l : List Tm), (∀ u ∈ l, V u) → (textR l).all (fun c => !(bInt c == 32)) = true := by
  intro l
  induction l with
  | nil => intro _; rfl
  | cons t l ih =>
    intro h
    rw [textR, List.all_cons, List.all_append, H t (h t (by simp)), ih (fun u hu => h u (by simp [hu]))]
    rfl
theorem sp_term : ∀ (d : Nat) (t : Tm), validT true d t = true → (textT t).all (fun c => !(bInt c == 32)) = true := by
  intro d
  induction d with
  | zero => intro t h; rw [validT] at h; cases h
  | succ d ih =>
    intro t h
    have hr := sp_run (valid_run h)
    obtain ⟨nm, l⟩ := t
    simp only [Tm.name] at hr
    match l, h with
    | [], _ => rw [textT]; exact hr
    | t :: l, h =>
      obtain ⟨_, _, ht, hall⟩ := valid_node h
      rw [textT, List.all_append, hr, List.all_cons, List.all_append, ih t ht, List.all_append, sp_rest (fun t => validT true d t = true) ih l hall]
      rfl
theorem name_ne {d : Nat} {v : Bool} {t : Tm} (h : validT v d t = true) : textT t ≠ [] := by
  cases d with
  | zero => rw [validT] at h; cases h
  | succ d =>
    obtain ⟨nm, l⟩ := t
    by_cases hl : l = []
    · subst hl
      rw [validT_leaf] at h
      rw [textT]
      rintro rfl
      cases v <;> exact absurd h (by decide)
    · rw [textT_node nm l hl]
      simp
theorem allO_txs : ∀ (l : List Tm), (∀ t ∈ l, validT false 4 t = true) → allO (txs l) = some l
  | [], _ => rfl
  | t :: l, h => by
    have h1 := term_back (h t (by simp))
    have h2 := allO_txs l (fun u hu => h u (by simp [hu]))
    unfold txs at h2 ⊢
    rw [List.map_cons, allO, h1, h2]
theorem items_back {l : List Tm} (h : groundF l = true) : itemsF (termsT l) = some l := by
  unfold groundF at h
  rw [List.all_eq_true] at h
  unfold itemsF termsT
  by_cases hl : l = []
  · subst hl; rfl
  · have hx : txs l ≠ [] := by unfold txs; simpa using hl
    have hs : ∀ x ∈ txs l, noSp x := by
      intro x hx
      obtain ⟨t, ht, rfl⟩ := List.mem_map.1 hx
      exact sp_all (sp_term 4 t (valid_mono _ _ (h t ht)))
    have hne : (Lib.join (txs l) [44, 32]).isEmpty = false := by
      cases l with
      | nil => exact absurd rfl hl
      | cons t l =>
        have := name_ne (h t (by simp))
        show (Lib.join (textT t :: txs l) [44, 32]).isEmpty = false
        rw [Lib.join_cons]
        cases htx : textT t with
        | nil => exact absurd htx this
        | cons a r => rfl
    rw [hne, pieces_join _ hx hs]
    simp only [Bool.false_eq_true, if_false]
    exact allO_txs l h
theorem terms_back {l : List Tm} (h : groundF l = true) : termsP (escT (termsT l)) = some l := by
  unfold termsP
  rw [unT_escT]
  exact items_back h

/-! the line of a message -/
theorem noSp_esc (l : List UInt8) : noSp (escT l) := by
  intro hm
  have := List.all_eq_true.1 (escT_ink l) 32 hm
  exact absurd this (by decide)
theorem noSp_name {l : List UInt8} (h : nameF l = true) : noSp l := sp_all (sp_run (run_name h))
theorem noSp_itoa {n : Int} (h : 1 ≤ n) : noSp (Lib.itoa n) := by
  rw [itoa_nn (by omega)]
  intro hm
  exact absurd (decD_dg _ _ hm) (by decide)
theorem role_nil {t : Tm} (h : t.name = []) (h2 : t.args.length = 0) : t = .mk [] [] := by
  obtain ⟨nm, l⟩ := t
  simp only [Tm.name, Tm.args] at h h2
  rw [h, List.length_eq_zero_iff.1 h2]
theorem role_one {t : Tm} (h2 : t.args.length = 0) : t = .mk t.name [] := by
  obtain ⟨nm, l⟩ := t
  simp only [Tm.name, Tm.args] at h2 ⊢
  rw [List.length_eq_zero_iff.1 h2]
/-- what Check lets pass -/
theorem check_ok {m : Ms} (h : checkF m = 0) : (1 ≤ m.kind ∧ m.kind ≤ 7) ∧ (m.kind ≤ 4 → nameF m.mat = true) ∧ (4 < m.kind → m.mat = []) ∧
    (m.kind = 1 → nameF m.role.name = true ∧ m.role.args.length = 0 ∧ 1 ≤ m.sc ∧ m.sc ≤ 1000 ∧ 1 ≤ m.pc ∧ m.pc ≤ 1000) ∧
    (m.kind ≠ 1 → m.role = .mk [] [] ∧ m.sc = 0 ∧ m.pc = 0 ∧ m.text = []) ∧ (m.kind ≠ 2 → m.kind ≠ 3 → m.percepts = []) ∧ (m.kind ≠ 2 → m.kind ≠ 3 → m.kind ≠ 6 → m.moves = []) ∧
    (m.kind = 2 ∨ m.kind = 3 → m.moves.length ≤ 1) ∧ (m.kind = 6 → m.moves.length = 1) ∧ groundF m.moves = true ∧ groundF m.percepts = true ∧ m.text.length ≤ 16384 := by
  unfold checkF at h
  split at h
  · omega
  rename_i h1
  split at h
  · omega
  rename_i h2
  split at h
  · omega
  rename_i h3
  split at h
  · omega
  rename_i h4
  split at h
  · omega
  rename_i h5
  split at h
  · omega
  rename_i h6
  split at h
  · omega
  rename_i h7
  simp only [not_or, not_and, Classical.not_not, ne_eq, Bool.not_eq_false] at h1 h2 h3 h4 h5 h6
  refine ⟨by omega, h2.1, h4.1, fun hk => ?_, fun hk => ?_, fun ha hb => List.length_eq_zero_iff.1 (by have := h5.1 ha hb; omega), fun ha hb hc => List.length_eq_zero_iff.1 (by have := h5.2 ha hb hc; omega),
    fun hk => by have := h6.1 hk; omega, fun hk => by have := h6.2.1 hk; omega, h6.2.2.1, h6.2.2.2, by omega⟩
  · have a := h2.2 hk
    have b := h3 hk
    exact ⟨a.1, by omega, by omega, by omega, by omega, by omega⟩
  · have a := h4.2 hk
    exact ⟨role_nil a.1 (by omega), a.2.2.1, a.2.2.2.1, a.2.2.2.2⟩
theorem ms_ext {m n : Ms} (h1 : m.kind = n.kind) (h2 : m.mat = n.mat) (h3 : m.role = n.role) (h4 : m.sc = n.sc) (h5 : m.pc = n.pc) (h6 : m.moves = n.moves) (h7 : m.percepts = n.percepts) (h8 : m.text = n.text) : m = n := by
  cases m; cases n; simp_all
theorem encW_ok {m : Ms} (h : checkF m = 0) : encW m ≠ [] ∧ ∀ x ∈ encW m, noSp x := by
  obtain ⟨hk, hmat, hmat2, h1, h2, hp, hm, hm1, hm6, hg1, hg2, ht⟩ := check_ok h
  have hw : noSp wStart ∧ noSp wPlay ∧ noSp wStop ∧ noSp wAbort ∧ noSp wReady ∧ noSp wMove ∧ noSp wDone := by unfold noSp; decide
  obtain ⟨w1, w2, w3, w4, w5, w6, w7⟩ := hw
  unfold encW
  by_cases k1 : m.kind = 1
  · obtain ⟨r1, r2, r3, r4, r5, r6⟩ := h1 k1
    rw [if_pos k1]
    refine ⟨by simp, ?_⟩
    intro x hx
    simp only [List.mem_cons, List.not_mem_nil, or_false] at hx
    rcases hx with rfl | rfl | rfl | rfl | rfl | rfl
    · exact w1
    · exact noSp_name (hmat (by omega))
    · exact noSp_name r1
    · exact noSp_itoa r3
    · exact noSp_itoa r5
    · exact noSp_esc _
  rw [if_neg k1]
  by_cases k2 : m.kind = 2
  · rw [if_pos k2]
    refine ⟨by simp, ?_⟩
    intro x hx
    simp only [List.mem_cons, List.not_mem_nil, or_false] at hx
    rcases hx with rfl | rfl | rfl | rfl
    · exact w2
    · exact noSp_name (hmat (by omega))
    · exact noSp_esc _
    · exact noSp_esc _
  rw [if_neg k2]
  by_cases k3 : m.kind = 3
  · rw [if_pos k3]
    refine ⟨by simp, ?_⟩
    intro x hx
    simp only [List.mem_cons, List.not_mem_nil, or_false] at hx
    rcases hx with rfl | rfl | rfl | rfl
    · exact w3
    · exact noSp_name (hmat (by omega))
    · exact noSp_esc _
    · exact noSp_esc _
  rw [if_neg k3]
  by_cases k4 : m.kind = 4
  · rw [if_pos k4]
    refine ⟨by simp, ?_⟩
    intro x hx
    simp only [List.mem_cons, List.not_mem_nil, or_false] at hx
    rcases hx with rfl | rfl
    · exact w4
    · exact noSp_name (hmat (by omega))
  rw [if_neg k4]
  by_cases k5 : m.kind = 5
  · rw [if_pos k5]
    refine ⟨by simp, ?_⟩
    intro x hx
    simp only [List.mem_cons, List.not_mem_nil, or_false] at hx
    subst hx
    exact w5
  rw [if_neg k5]
  by_cases k6 : m.kind = 6
  · rw [if_pos k6]
    refine ⟨by simp, ?_⟩
    intro x hx
    simp only [List.mem_cons, List.not_mem_nil, or_false] at hx
    rcases hx with rfl | rfl
    · exact w6
    · exact noSp_esc _
  rw [if_neg k6]
  refine ⟨by simp, ?_⟩
  intro x hx
  simp only [List.mem_cons, List.not_mem_nil, or_false] at hx
  subst hx
  exact w7
theorem words_enc {m : Ms} (h : checkF m = 0) : wordsF (encF m) = encW m := words_join _ (encW_ok h).1 (encW_ok h).2
theorem tmO_esc {l : List Tm} (h : groundF l = true) (r : List (List UInt8)) : tmO (escT (termsT l) :: r) = some l := terms_back h
/-- both readers find a message in its line -/
theorem both_back {m : Ms} (h : checkF m = 0) : readP ((encW m).headD []) (encW m).tail = some m ∧ guessF (encW m) = m := by
  obtain ⟨hk, hmat, hmat2, h1, h2, hp, hm, hm1, hm6, hg1, hg2, ht⟩ := check_ok h
  unfold encW
  by_cases k1 : m.kind = 1
  · obtain ⟨r1, r2, r3, r4, r5, r6⟩ := h1 k1
    rw [if_pos k1]
    have e1 := atoi_itoa m.sc r3 r4
    have e2 := atoi_itoa m.pc r5 r6
    have hm' := hm (by omega) (by omega) (by omega)
    have hp' := hp (by omega) (by omega)
    constructor
    · simp only [List.headD_cons, List.tail_cons, readP, if_true, List.head?_cons, numO, txO, Option.bind_some, e1, e2, unT_escT]
      congr 1
      exact ms_ext k1.symm rfl (role_one r2).symm rfl rfl hm'.symm hp'.symm rfl
    · simp only [guessF, if_true, clk_itoa m.sc r3 r4, clk_itoa m.pc r5 r6, unT_escT, Option.getD_some]
      exact ms_ext k1.symm rfl (role_one r2).symm rfl rfl hm'.symm hp'.symm rfl
  rw [if_neg k1]
  obtain ⟨q1, q2, q3, q4⟩ := h2 k1
  by_cases k2 : m.kind = 2
  · rw [if_pos k2]
    constructor
    · simp only [List.headD_cons, List.tail_cons, readP, if_neg (show ¬ wPlay = wStart by decide), if_true, listP, List.head?_cons, tmO_esc hg1, tmO_esc hg2]
      congr 1
      exact ms_ext k2.symm rfl q1.symm q2.symm q3.symm rfl rfl q4.symm
    · simp only [guessF, if_neg (show ¬ wPlay = wStart by decide), if_true, termsR, terms_back hg1, terms_back hg2, Option.getD_some]
      exact ms_ext k2.symm rfl q1.symm q2.symm q3.symm rfl rfl q4.symm
  rw [if_neg k2]
  by_cases k3 : m.kind = 3
  · rw [if_pos k3]
    constructor
    · simp only [List.headD_cons, List.tail_cons, readP, if_neg (show ¬ wStop = wStart by decide), if_neg (show ¬ wStop = wPlay by decide), if_true, listP, List.head?_cons, tmO_esc hg1, tmO_esc hg2]
      congr 1
      exact ms_ext k3.symm rfl q1.symm q2.symm q3.symm rfl rfl q4.symm
    · simp only [guessF, if_neg (show ¬ wStop = wStart by decide), if_neg (show ¬ wStop = wPlay by decide), if_true, termsR, terms_back hg1, terms_back hg2, Option.getD_some]
      exact ms_ext k3.symm rfl q1.symm q2.symm q3.symm rfl rfl q4.symm
  rw [if_neg k3]
  have hp' := hp k2 k3
  by_cases k4 : m.kind = 4
  · rw [if_pos k4]
    have hm' := hm k2 k3 (by omega)
    constructor
    · simp only [List.headD_cons, List.tail_cons, readP, if_neg (show ¬ wAbort = wStart by decide), if_neg (show ¬ wAbort = wPlay by decide), if_neg (show ¬ wAbort = wStop by decide), if_true, List.head?_cons, Option.map_some]
      congr 1
      exact ms_ext k4.symm rfl q1.symm q2.symm q3.symm hm'.symm hp'.symm q4.symm
    · simp only [guessF, if_neg (show ¬ wAbort = wStart by decide), if_neg (show ¬ wAbort = wPlay by decide), if_neg (show ¬ wAbort = wStop by decide), if_true]
      exact ms_ext k4.symm rfl q1.symm q2.symm q3.symm hm'.symm hp'.symm q4.symm
  rw [if_neg k4]
  have hmm := hmat2 (by omega)
  by_cases k5 : m.kind = 5
  · rw [if_pos k5]
    have hm' := hm k2 k3 (by omega)
    constructor
    · simp only [List.headD_cons, List.tail_cons, readP, if_neg (show ¬ wReady = wStart by decide), if_neg (show ¬ wReady = wPlay by decide), if_neg (show ¬ wReady = wStop by decide), if_neg (show ¬ wReady = wAbort by decide), if_true]
      congr 1
      exact ms_ext k5.symm hmm.symm q1.symm q2.symm q3.symm hm'.symm hp'.symm q4.symm
    · simp only [guessF, if_neg (show ¬ wReady = wStart by decide), if_neg (show ¬ wReady = wPlay by decide), if_neg (show ¬ wReady = wStop by decide), if_neg (show ¬ wReady = wAbort by decide), if_true]
      exact ms_ext k5.symm hmm.symm q1.symm q2.symm q3.symm hm'.symm hp'.symm q4.symm
  rw [if_neg k5]
  by_cases k6 : m.kind = 6
  · rw [if_pos k6]
    constructor
    · simp only [List.headD_cons, List.tail_cons, readP, if_neg (show ¬ wMove = wStart by decide), if_neg (show ¬ wMove = wPlay by decide), if_neg (show ¬ wMove = wStop by decide), if_neg (show ¬ wMove = wAbort by decide), if_neg (show ¬ wMove = wReady by decide), if_true, tmO_esc hg1, Option.map_some]
      congr 1
      exact ms_ext k6.symm hmm.symm q1.symm q2.symm q3.symm rfl hp'.symm q4.symm
    · simp only [guessF, if_neg (show ¬ wMove = wStart by decide), if_neg (show ¬ wMove = wPlay by decide), if_neg (show ¬ wMove = wStop by decide), if_neg (show ¬ wMove = wAbort by decide), if_neg (show ¬ wMove = wReady by decide), if_true, termsR, terms_back hg1, Option.getD_some]
      exact ms_ext k6.symm hmm.symm q1.symm q2.symm q3.symm rfl hp'.symm q4.symm
  rw [if_neg k6]
  have hm' := hm k2 k3 (by omega)
  have k7 : m.kind = 7 := by omega
  constructor
  · simp only [List.headD_cons, List.tail_cons, readP, if_neg (show ¬ wDone = wStart by decide), if_neg (show ¬ wDone = wPlay by decide), if_neg (show ¬ wDone = wStop by decide), if_neg (show ¬ wDone = wAbort by decide), if_neg (show ¬ wDone = wReady by decide), if_neg (show ¬ wDone = wMove by decide), if_true]
    congr 1
    exact ms_ext k7.symm hmm.symm q1.symm q2.symm q3.symm hm'.symm hp'.symm q4.symm
  · simp only [guessF, if_neg (show ¬ wDone = wStart by decide), if_neg (show ¬ wDone = wPlay by decide), if_neg (show ¬ wDone = wStop by decide), if_neg (show ¬ wDone = wAbort by decide), if_neg (show ¬ wDone = wReady by decide), if_neg (show ¬ wDone = wMove by decide), if_true]
    exact ms_ext k7.symm hmm.symm q1.symm q2.symm q3.symm hm'.symm hp'.symm q4.symm
theorem close_some {s : List UInt8} {m n : Ms} (h : closeF s m = some n) : n = m ∧ checkF n = 0 ∧ encF n = s := by
  unfold closeF at h
  split at h
  · rename_i hc
    injection h with h
    subst h
    exact ⟨rfl, hc⟩
  · cases h
theorem close_self {m : Ms} (h : checkF m = 0) : closeF (encF m) m = some m := by unfold closeF; rw [if_pos ⟨h, rfl⟩]
theorem decP_enc {m : Ms} (h : checkF m = 0) : decP (encF m) = some m := by
  unfold decP
  rw [words_enc h, (both_back h).1]
  exact close_self h
theorem decR_enc {m : Ms} (h : checkF m = 0) : decR (encF m) = some m := by
  unfold decR
  rw [words_enc h, (both_back h).2]
  exact close_self h
theorem decP_some {s : List UInt8} {m : Ms} (h : decP s = some m) : checkF m = 0 ∧ encF m = s := by
  unfold decP at h
  obtain ⟨n, _, hn⟩ := Option.bind_eq_some_iff.1 h
  exact (close_some hn).2
/-- the program and the reference decode alike -/
theorem dec_eq (s : List UInt8) : decR s = decP s := by
  cases h : decP s with
  | some m =>
    obtain ⟨h1, h2⟩ := decP_some h
    rw [← h2]
    exact decR_enc h1
  | none =>
    cases h2 : decR s with
    | none => rfl
    | some m =>
      unfold decR at h2
      obtain ⟨_, h3, h4⟩ := close_some h2
      rw [← h4, decP_enc h3] at h
      cases h

end
end Go.Proofs.YtmplpbdldcokjaaGreatDoor
