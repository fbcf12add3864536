/- Messages, plain: a text as one word, and back. -/
import Derived.Test.YtmplpbdldcokjaaGreatDoorXa
import Derived.Lib.Bytealg
namespace Go.Proofs.YtmplpbdldcokjaaGreatDoor
open Go
set_option linter.unusedSimpArgs false

/-- the bytes that stay in a word -/
def plainB (n : Int) : Bool := lowerB n || upperB n || digitB n || n == 40 || n == 41 || n == 44 || n == 46 || n == 45
def hexC (n : Nat) : UInt8 := UInt8.ofNat (if n < 10 then 48 + n else 87 + n)
def hexV (n : Int) : Int := if digitB n then n - 48 else if decide (97 ≤ n) && decide (n ≤ 102) then n - 87 else -1
def escC (c : UInt8) : List UInt8 := if plainB (bInt c) then [c] else [37, hexC (c.toNat / 16), hexC (c.toNat % 16)]
def escA (l : List UInt8) : List UInt8 := l.flatMap escC
def escT (l : List UInt8) : List UInt8 := if l.isEmpty then [37] else escA l
/-- what is left and what is out after bytes, as the program reads them -/
def unG : List UInt8 → Int → Int → List UInt8 → Option (Int × List UInt8)
  | [], _, k, out => some (k, out)
  | c :: r, v, k, out =>
    if decide (0 < k) then
      (if decide ((if decide (bInt c < 128) then hexV (bInt c) else -1) < 0) then none
       else if k - 1 == 0 then unG r (v * 16 + hexV (bInt c)) (k - 1) (out ++ [UInt8.ofNat (v * 16 + hexV (bInt c)).toNat])
       else unG r (v * 16 + hexV (bInt c)) (k - 1) out)
    else if bInt c == 37 then unG r 0 2 out
    else if decide (bInt c < 128) && plainB (bInt c) then unG r v k (out ++ [c])
    else none
def unT (s : List UInt8) : Option (List UInt8) :=
  if s == [37] then some [] else
  match unG s 0 0 [] with
  | none => none
  | some (k, out) => if decide (0 < k) || !(escT out == s) then none else some out
/-- the same as the reference reads them -/
def unH : List UInt8 → List UInt8 → Option (List UInt8)
  | [], out => some out
  | c :: r, out =>
    if bInt c == 37 then
      match r with
      | a :: b :: r' => if decide (hexV (bInt a) < 0) || decide (hexV (bInt b) < 0) then none else unH r' (out ++ [UInt8.ofNat (16 * hexV (bInt a) + hexV (bInt b)).toNat])
      | _ => none
    else unH r (out ++ [c])
def unR (s : List UInt8) : Option (List UInt8) :=
  if s == [37] then some [] else
  match unH s [] with
  | none => none
  | some out => if escT out == s then some out else none

theorem u8_all {p : UInt8 → Bool} (h : ∀ i : Fin 256, p (UInt8.ofNat i.val) = true) (c : UInt8) : p c = true := by
  have := h ⟨c.toNat, c.toNat_lt⟩
  simpa using this
theorem hex_hi (c : UInt8) : hexV (bInt (hexC (c.toNat / 16))) = ((c.toNat / 16 : Nat) : Int) ∧ bInt (hexC (c.toNat / 16)) < 128 := by
  have := u8_all (p := fun c => decide (hexV (bInt (hexC (c.toNat / 16))) = ((c.toNat / 16 : Nat) : Int) ∧ bInt (hexC (c.toNat / 16)) < 128)) (by decide +kernel) c
  simpa using this
theorem hex_lo (c : UInt8) : hexV (bInt (hexC (c.toNat % 16))) = ((c.toNat % 16 : Nat) : Int) ∧ bInt (hexC (c.toNat % 16)) < 128 := by
  have := u8_all (p := fun c => decide (hexV (bInt (hexC (c.toNat % 16))) = ((c.toNat % 16 : Nat) : Int) ∧ bInt (hexC (c.toNat % 16)) < 128)) (by decide +kernel) c
  simpa using this
theorem plain_ne (c : UInt8) (h : plainB (bInt c) = true) : (bInt c == 37) = false ∧ decide (bInt c < 128) = true := by
  have := u8_all (p := fun c => !plainB (bInt c) || (!(bInt c == 37) && decide (bInt c < 128))) (by decide +kernel) c
  rw [h] at this
  simpa using this
theorem b37 : (bInt 37 == 37) = true := by decide
theorem back16 (c : UInt8) : UInt8.ofNat (((0 : Int) * 16 + ((c.toNat / 16 : Nat) : Int)) * 16 + ((c.toNat % 16 : Nat) : Int)).toNat = c := by
  have h : (((0 : Int) * 16 + ((c.toNat / 16 : Nat) : Int)) * 16 + ((c.toNat % 16 : Nat) : Int)).toNat = c.toNat := by omega
  rw [h]; simp
theorem back16' (c : UInt8) : UInt8.ofNat ((16 : Int) * ((c.toNat / 16 : Nat) : Int) + ((c.toNat % 16 : Nat) : Int)).toNat = c := by
  have h : ((16 : Int) * ((c.toNat / 16 : Nat) : Int) + ((c.toNat % 16 : Nat) : Int)).toNat = c.toNat := by omega
  rw [h]; simp
theorem escA_cons (c : UInt8) (l : List UInt8) : escA (c :: l) = escC c ++ escA l := by simp [escA]
theorem escA_snoc (l : List UInt8) (c : UInt8) : escA (l ++ [c]) = escA l ++ escC c := by simp [escA]

theorem unG_plain (c : UInt8) (r : List UInt8) (v : Int) (out : List UInt8) (h : plainB (bInt c) = true) : unG (c :: r) v 0 out = unG r v 0 (out ++ [c]) := by
  obtain ⟨h1, h2⟩ := plain_ne c h
  rw [unG]
  simp [h1, h2, h]
theorem unG_esc (c : UInt8) (r : List UInt8) (v : Int) (out : List UInt8) : ∃ v', unG (37 :: hexC (c.toNat / 16) :: hexC (c.toNat % 16) :: r) v 0 out = unG r v' 0 (out ++ [c]) := by
  obtain ⟨a1, a2⟩ := hex_hi c
  obtain ⟨b1, b2⟩ := hex_lo c
  refine ⟨((0 : Int) * 16 + ((c.toNat / 16 : Nat) : Int)) * 16 + ((c.toNat % 16 : Nat) : Int), ?_⟩
  rw [unG, if_neg (by decide), if_pos b37, unG, if_pos (by decide), decide_eq_true a2, if_pos rfl, a1, if_neg (by simp; omega), if_neg (by decide), unG, if_pos (by decide), decide_eq_true b2, if_pos rfl, b1, if_neg (by simp; omega), if_pos (by decide), back16]
  rfl
theorem unG_escA : ∀ (l r : List UInt8) (v : Int) (out : List UInt8), ∃ v', unG (escA l ++ r) v 0 out = unG r v' 0 (out ++ l)
  | [], r, v, out => ⟨v, by simp [escA]⟩
  | c :: l, r, v, out => by
    rw [escA_cons, List.append_assoc]
    unfold escC
    cases h : plainB (bInt c) with
    | true =>
      rw [if_pos rfl, List.singleton_append, unG_plain c _ _ _ h]
      obtain ⟨v', hv⟩ := unG_escA l r v (out ++ [c])
      exact ⟨v', by rw [hv]; simp⟩
    | false =>
      rw [if_neg Bool.false_ne_true]
      obtain ⟨v1, h1⟩ := unG_esc c (escA l ++ r) v out
      obtain ⟨v', hv⟩ := unG_escA l r v1 (out ++ [c])
      exact ⟨v', by rw [show [37, hexC (c.toNat / 16), hexC (c.toNat % 16)] ++ (escA l ++ r) = 37 :: hexC (c.toNat / 16) :: hexC (c.toNat % 16) :: (escA l ++ r) from rfl, h1, hv]; simp⟩
theorem escA_ne {l : List UInt8} (h : l ≠ []) : escA l ≠ [37] := by
  cases l with
  | nil => exact absurd rfl h
  | cons c l =>
    rw [escA_cons]
    unfold escC
    cases hp : plainB (bInt c) with
    | true =>
      rw [if_pos rfl]
      intro he
      injection he with h1 h2
      subst h1
      exact absurd hp (by decide)
    | false => rw [if_neg Bool.false_ne_true]; simp
theorem escT_ne {l : List UInt8} (h : l ≠ []) : escT l = escA l := by
  unfold escT
  cases l with
  | nil => exact absurd rfl h
  | cons c l => rfl
theorem unT_iff (s l : List UInt8) : unT s = some l ↔ escT l = s := by
  unfold unT
  by_cases h37 : s = [37]
  · subst h37
    rw [if_pos (by rfl)]
    constructor
    · intro h
      injection h with h
      subst h
      rfl
    · intro h
      by_cases hl : l = []
      · rw [hl]
      · rw [escT_ne hl] at h
        exact absurd h (escA_ne hl)
  · rw [if_neg (by simpa using h37)]
    constructor
    · intro h
      split at h
      · cases h
      · rename_i k out hg
        split at h
        · cases h
        · rename_i hc
          injection h with h
          subst h
          simp at hc
          exact hc.2
    · intro h
      have hl : l ≠ [] := by
        rintro rfl
        exact h37 h.symm
      rw [escT_ne hl] at h
      obtain ⟨v', hv⟩ := unG_escA l [] 0 []
      rw [List.append_nil, h, List.nil_append, unG] at hv
      rw [hv]
      simp [escT_ne hl, h]
theorem unH_ne (c : UInt8) (r out : List UInt8) (h : (bInt c == 37) = false) : unH (c :: r) out = unH r (out ++ [c]) := by
  match r with
  | [] => simp [unH, h]
  | [a] => simp [unH, h]
  | a :: b :: r' => rw [unH, if_neg (by rw [h]; decide)]
theorem unH_escA : ∀ (l r out : List UInt8), unH (escA l ++ r) out = unH r (out ++ l)
  | [], r, out => by simp [escA]
  | c :: l, r, out => by
    rw [escA_cons, List.append_assoc]
    unfold escC
    cases h : plainB (bInt c) with
    | true =>
      rw [if_pos rfl, List.singleton_append, unH_ne _ _ _ (plain_ne c h).1, unH_escA l r]
      simp
    | false =>
      rw [if_neg Bool.false_ne_true]
      rw [show [37, hexC (c.toNat / 16), hexC (c.toNat % 16)] ++ (escA l ++ r) = 37 :: hexC (c.toNat / 16) :: hexC (c.toNat % 16) :: (escA l ++ r) from rfl, unH, if_pos b37]
      simp only [(hex_hi c).1, (hex_lo c).1]
      rw [if_neg (by simp; omega), back16', unH_escA l r]
      simp
theorem unR_iff (s l : List UInt8) : unR s = some l ↔ escT l = s := by
  unfold unR
  by_cases h37 : s = [37]
  · subst h37
    rw [if_pos (by rfl)]
    constructor
    · intro h
      injection h with h
      subst h
      rfl
    · intro h
      by_cases hl : l = []
      · rw [hl]
      · rw [escT_ne hl] at h
        exact absurd h (escA_ne hl)
  · rw [if_neg (by simpa using h37)]
    constructor
    · intro h
      split at h
      · cases h
      · rename_i out hg
        split at h
        · rename_i hc
          injection h with h
          subst h
          simpa using hc
        · cases h
    · intro h
      have hl : l ≠ [] := by
        rintro rfl
        exact h37 h.symm
      rw [escT_ne hl] at h
      have hv := unH_escA l [] []
      rw [List.append_nil, h, List.nil_append, unH] at hv
      rw [hv]
      simp [escT_ne hl, h]
theorem unR_eq (s : List UInt8) : unR s = unT s := by
  cases h : unT s with
  | some l => rw [unR_iff, ← unT_iff, h]
  | none =>
    cases h2 : unR s with
    | none => rfl
    | some l => rw [unR_iff, ← unT_iff, h] at h2; cases h2
theorem unT_escT (l : List UInt8) : unT (escT l) = some l := (unT_iff _ _).2 rfl
theorem escC_len (c : UInt8) : 1 ≤ (escC c).length ∧ (escC c).length ≤ 3 := by unfold escC; split <;> simp
theorem escA_len (l : List UInt8) : l.length ≤ (escA l).length ∧ (escA l).length ≤ 3 * l.length := by
  induction l with
  | nil => simp [escA]
  | cons c l ih =>
    have := escC_len c
    rw [escA_cons, List.length_append, List.length_cons]
    omega
theorem escT_len (l : List UInt8) : 1 ≤ (escT l).length ∧ (escT l).length ≤ 3 * l.length + 1 ∧ (l ≠ [] → (escT l).length ≤ 3 * l.length) := by
  by_cases h : l = []
  · subst h; simp [escT]
  · rw [escT_ne h]
    have := escA_len l
    have : 0 < l.length := List.length_pos_iff.2 h
    exact ⟨by omega, by omega, fun _ => by omega⟩
/-- bytes of words -/
def inkB (n : Int) : Bool := decide (33 ≤ n) && decide (n ≤ 126)
theorem escC_ink (c : UInt8) : (escC c).all (fun c => inkB (bInt c)) = true := by
  exact u8_all (p := fun c => (escC c).all (fun c => inkB (bInt c))) (by decide +kernel) c
theorem escA_ink (l : List UInt8) : (escA l).all (fun c => inkB (bInt c)) = true := by
  induction l with
  | nil => rfl
  | cons c l ih => rw [escA_cons, List.all_append, escC_ink, ih]; rfl
theorem escT_ink (l : List UInt8) : (escT l).all (fun c => inkB (bInt c)) = true := by
  by_cases h : l = []
  · subst h; decide
  · rw [escT_ne h]; exact escA_ink l
end Go.Proofs.YtmplpbdldcokjaaGreatDoor
