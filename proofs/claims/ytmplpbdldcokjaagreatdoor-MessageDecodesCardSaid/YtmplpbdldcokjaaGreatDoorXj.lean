/- Merged texts: The walks of Literal, of the printer and of the reference. The walks of Rule, of the printer and of the reference. The sizes of a rule: its weight; a printable rule is small. The walks of Valid for rules, of the printer and of the reference. The walk of the reference's Rules: the text of a description. -/
import Derived.Test.YtmplpbdldcokjaaGreatDoorX2
import Derived.Test.YtmplpbdldcokjaaGreatDoorWn
namespace Go.Proofs.YtmplpbdldcokjaaGreatDoor
/- The walks of Literal, of the printer and of the reference. -/
section
open Go Go.RowKit Go.Shelf
set_option linter.unusedSimpArgs false

/-- the text of a literal -/
def litT (l : Li) : List UInt8 := (if l.neg then [110, 111, 116, 32] else []) ++ textT l.atom
theorem litT_len (l : Li) : (litT l).length ≤ 2 * wT l.atom + 4 := by
  have := textT_len l.atom
  unfold litT
  cases l.neg <;> simp <;> omega

end
/- The walks of Rule, of the printer and of the reference. -/
section
open Go Go.RowKit Go.Shelf
set_option linter.unusedSimpArgs false

theorem own_form {w : World} {B : Nat} {e : TypeId} {s n : Nat} {v : Value} {xs : List Value} (h : w.ownsRow B e s v n xs) : ∃ A c, v = .slice A n c := by
  rcases h.2 with ⟨hv, h0⟩ | ⟨g, cap, cur, hv, _⟩
  · first | exact ⟨_, _, hv⟩ | (subst h0; exact ⟨_, _, hv⟩)
  · exact ⟨_, _, hv⟩

/-- the texts of literals -/
def ltxs (l : List Li) : List (List UInt8) := l.map litT
theorem ltxs_take {l : List Li} {k : Nat} {t : Li} (h : l[k]? = some t) : ltxs (l.take (k + 1)) = ltxs (l.take k) ++ [litT t] := by
  obtain ⟨h1, h2⟩ := List.getElem?_eq_some_iff.1 h
  unfold ltxs
  rw [List.take_succ_eq_append_getElem h1, h2, List.map_append]
  rfl
/-- the texts of literals, as a body -/
def bodyT (l : List Li) : List UInt8 := Lib.join (ltxs l) [32, 97, 110, 100, 32]
/-- the body's part of a rule's text -/
def bodyS (l : List Li) : List UInt8 := if l.isEmpty then [] else [32, 105, 102, 32] ++ bodyT l
/-- the text of a rule -/
def ruleT (r : Ru) : List UInt8 := textT r.head ++ bodyS r.body ++ [46]
theorem bodyS_take {l : List Li} {k : Nat} {t : Li} (h : l[k]? = some t) : bodyS (l.take (k + 1)) = if k = 0 then [32, 105, 102, 32] ++ litT t else bodyS (l.take k) ++ ([32, 97, 110, 100, 32] ++ litT t) := by
  cases l with
  | nil => simp at h
  | cons a r =>
    cases k with
    | zero =>
      simp at h
      subst h
      simp [bodyS, bodyT, ltxs, Lib.join_one]
    | succ k =>
      have h2 := ltxs_take h
      unfold bodyS bodyT
      rw [h2, join_snoc]
      simp [ltxs]


end
/- The sizes of a rule: its weight; a printable rule is small. -/
section
open Go Go.RowKit Go.Shelf
set_option linter.unusedSimpArgs false

/-- what Valid answers -/
def ruleOk (r : Ru) : Bool := decide (r.body.length ≤ 8) && atomV r.head && r.body.all (fun t => atomV t.atom)
/-- weights of literals, of a rule -/
def wB : List Li → Nat
  | [] => 0
  | t :: l => 2 * wT t.atom + 9 + wB l
def wRu (r : Ru) : Nat := 2 * wT r.head + 10 + wB r.body
theorem joinTail_len (sep : List UInt8) (l : List Li) (hs : sep.length = 5) : (Lib.joinTail sep (ltxs l)).length ≤ wB l := by
  induction l with
  | nil => simp [ltxs, Lib.joinTail]
  | cons a l ih =>
    have h := litT_len a
    have : (Lib.joinTail sep (ltxs (a :: l))) = sep ++ litT a ++ Lib.joinTail sep (ltxs l) := by simp [ltxs, Lib.joinTail]
    rw [this]
    simp [wB]
    omega
theorem bodyT_cons (a : Li) (l : List Li) : bodyT (a :: l) = litT a ++ Lib.joinTail [32, 97, 110, 100, 32] (ltxs l) := by
  unfold bodyT ltxs
  rw [List.map_cons, Lib.join_cons]
theorem bodyT_len (l : List Li) : (bodyT l).length ≤ wB l := by
  cases l with
  | nil => simp [bodyT, ltxs, Lib.join, List.intercalate, wB]
  | cons a l =>
    have h := litT_len a
    have h2 := joinTail_len [32, 97, 110, 100, 32] l rfl
    rw [bodyT_cons]
    simp [wB]
    omega
theorem wB_take (l : List Li) : ∀ k, wB (l.take k) ≤ wB l := by
  induction l with
  | nil => simp [wB]
  | cons a l ih =>
    intro k
    cases k with
    | zero => simp [wB]
    | succ k => have := ih k; simp [wB]; omega
theorem wB_mem {l : List Li} {t : Li} (h : t ∈ l) : wT t.atom ≤ wB l := by
  induction l with
  | nil => cases h
  | cons a l ih =>
    cases h with
    | head => simp [wB]; omega
    | tail _ h => have := ih h; simp [wB]; omega
theorem wB_len (l : List Li) : l.length ≤ wB l := by
  induction l with
  | nil => simp
  | cons a l ih => simp [wB]; omega
/-- the sizes of a rule -/
structure RuW (r : Ru) : Prop where
  head : wT r.head ≤ 10000000
  len : r.body.length ≤ 10000000
  lits : ∀ t ∈ r.body, wT t.atom ≤ 10000000
  text : ∀ k, (bodyT (r.body.take k)).length ≤ 50000000
theorem RuW.body {r : Ru} (h : RuW r) : (bodyT r.body).length ≤ 50000000 := by
  have := h.text r.body.length
  rwa [List.take_length] at this
theorem ruw_of {r : Ru} (h : wRu r ≤ 10000000) : RuW r := by
  unfold wRu at h
  refine ⟨by omega, ?_, ?_, ?_⟩
  · have := wB_len r.body; omega
  · intro t ht; have := wB_mem ht; omega
  · intro k; have h1 := bodyT_len (r.body.take k); have h2 := wB_take r.body k; omega
theorem wL_mem {l : List Tm} {t : Tm} (h : t ∈ l) : wT t ≤ wL l := by
  induction l with
  | nil => cases h
  | cons a l ih =>
    cases h with
    | head => simp [wL]
    | tail _ h => have := ih h; simp [wL]; omega
theorem wLx_len (l : List Tm) : l.length ≤ wL l := by
  induction l with
  | nil => simp
  | cons a l ih =>
    cases a with
    | mk nm r => simp [wL, wT]; omega
theorem tmb_w : ∀ (n : Nat) (t : Tm), wT t ≤ n → n ≤ 9223372036854775807 → TmB t := by
  intro n
  induction n with
  | zero => intro t h _; cases t; simp [wT] at h
  | succ n ih =>
    intro t h hn
    cases t with
    | mk nm l =>
      have hl := wLx_len l
      simp only [wT] at h
      exact .mk nm l (by omega) (by omega) (fun u hu => ih u (by have := wL_mem hu; omega) (by omega))
theorem RuW.tmb {r : Ru} (h : RuW r) : TmB r.head := tmb_w _ _ h.head (by omega)
theorem RuW.tmbs {r : Ru} (h : RuW r) : ∀ t ∈ r.body, TmB t.atom := fun t ht => tmb_w _ _ (h.lits t ht) (by omega)
theorem ruleT_len {r : Ru} (h : RuW r) : (ruleT r).length ≤ 80000000 := by
  have h1 := textT_len r.head
  have h2 := h.head
  have h3 := h.body
  unfold ruleT bodyS
  split <;> simp <;> omega
/-- what is known of any rule in memory -/
structure RuB (r : Ru) : Prop where
  head : TmB r.head
  len : r.body.length ≤ 9223372036854775807
  lits : ∀ t ∈ r.body, TmB t.atom
theorem RuW.rub {r : Ru} (h : RuW r) : RuB r := ⟨h.tmb, Nat.le_trans h.len (by omega), h.tmbs⟩

theorem len_name {l : List UInt8} (h : nameF l = true) : l.length ≤ 16 := by
  unfold nameF at h
  simp only [Bool.and_eq_true, decide_eq_true_eq] at h
  omega
theorem len_num {l : List UInt8} (h : numF l = true) : l.length ≤ 16 := by
  unfold numF at h
  simp only [Bool.and_eq_true, decide_eq_true_eq] at h
  omega
theorem len_var {l : List UInt8} (h : varF l = true) : l.length ≤ 16 := by
  unfold varF at h
  simp only [Bool.and_eq_true, decide_eq_true_eq] at h
  omega
theorem valid_len {v : Bool} {d : Nat} {t : Tm} (h : validT v d t = true) : t.name.length ≤ 16 := by
  cases d with
  | zero => rw [validT] at h; cases h
  | succ d =>
    rw [validT] at h
    split at h
    · simp only [Bool.or_eq_true, Bool.and_eq_true] at h
      rcases h with (h | h) | ⟨_, h⟩
      · exact len_name h
      · exact len_num h
      · exact len_var h
    · simp only [Bool.and_eq_true] at h
      exact len_name h.1.1
theorem valid_args {v : Bool} {d : Nat} {t : Tm} (h : validT v (d + 1) t = true) : t.args.length ≤ 4 ∧ ∀ u ∈ t.args, validT v d u = true := by
  rw [validT] at h
  split at h
  · rename_i h0
    refine ⟨by omega, fun u hu => ?_⟩
    rw [List.eq_nil_of_length_eq_zero h0] at hu
    cases hu
  · simp only [Bool.and_eq_true, decide_eq_true_eq, List.all_eq_true] at h
    exact ⟨h.1.2, h.2⟩
def cW : Nat → Nat
  | 0 => 0
  | d + 1 => 17 + 4 * cW d
def cT : Nat → Nat
  | 0 => 0
  | d + 1 => 21 + 4 * cT d
theorem wL_le {l : List Tm} {c : Nat} (h : ∀ u ∈ l, wT u ≤ c) : wL l ≤ l.length * c := by
  induction l with
  | nil => simp [wL]
  | cons t l ih =>
    have h1 := h t (by simp)
    have h2 := ih (fun u hu => h u (by simp [hu]))
    rw [wL, List.length_cons, Nat.succ_mul]
    omega
theorem textR_le {l : List Tm} {c : Nat} (h : ∀ u ∈ l, (textT u).length ≤ c) : (textR l).length ≤ l.length * (c + 1) := by
  induction l with
  | nil => simp [textR]
  | cons t l ih =>
    have h1 := h t (by simp)
    have h2 := ih (fun u hu => h u (by simp [hu]))
    rw [textR, show (t :: l).length = l.length + 1 from rfl, Nat.succ_mul]
    simp only [List.length_cons, List.length_append]
    omega
theorem valid_w {v : Bool} : ∀ (d : Nat) (t : Tm), validT v d t = true → wT t ≤ cW d := by
  intro d
  induction d with
  | zero => intro t h; rw [validT] at h; cases h
  | succ d ih =>
    intro t h
    have hn := valid_len h
    obtain ⟨h4, ha⟩ := valid_args h
    obtain ⟨nm, l⟩ := t
    simp only [Tm.name, Tm.args] at hn h4 ha
    have h1 := wL_le (fun u hu => ih u (ha u hu))
    have h2 := Nat.mul_le_mul_right (cW d) h4
    rw [wT, cW]
    omega
theorem valid_t {v : Bool} : ∀ (d : Nat) (t : Tm), validT v d t = true → (textT t).length ≤ cT d := by
  intro d
  induction d with
  | zero => intro t h; rw [validT] at h; cases h
  | succ d ih =>
    intro t h
    have hn := valid_len h
    obtain ⟨h4, ha⟩ := valid_args h
    obtain ⟨nm, l⟩ := t
    simp only [Tm.name, Tm.args] at hn h4 ha
    match l, h4, ha with
    | [], _, _ => rw [textT, cT]; omega
    | t :: l, h4, ha =>
      have h0 := ih t (ha t (by simp))
      have h1 := textR_le (l := l) (fun u hu => ih u (ha u (by simp [hu])))
      have h2 := Nat.mul_le_mul_right (cT d + 1) (show l.length ≤ 3 by simpa using h4)
      rw [textT, cT]
      simp only [List.length_append, List.length_cons, List.length_nil]
      omega
theorem atomV_w {t : Tm} (h : atomV t = true) : wT t ≤ 1445 := by
  unfold atomV at h
  rw [Bool.and_eq_true] at h
  exact valid_w 4 t h.1
theorem atomV_t {t : Tm} (h : atomV t = true) : (textT t).length ≤ 1785 := by
  unfold atomV at h
  rw [Bool.and_eq_true] at h
  exact valid_t 4 t h.1
theorem wB_valid {l : List Li} (h : ∀ t ∈ l, atomV t.atom = true) : wB l ≤ l.length * 2899 := by
  induction l with
  | nil => simp [wB]
  | cons a l ih =>
    have h1 := atomV_w (h a (by simp))
    have h2 := ih (fun u hu => h u (by simp [hu]))
    rw [wB, List.length_cons, Nat.succ_mul]
    omega
theorem ruleOk_parts {r : Ru} (h : ruleOk r = true) : r.body.length ≤ 8 ∧ atomV r.head = true ∧ ∀ t ∈ r.body, atomV t.atom = true := by
  unfold ruleOk at h
  simp only [Bool.and_eq_true, decide_eq_true_eq, List.all_eq_true] at h
  exact ⟨h.1.1, h.1.2, h.2⟩
/-- a printable rule is small -/
theorem ok_ruw {r : Ru} (h : ruleOk r = true) : RuW r := by
  obtain ⟨h8, hh, hb⟩ := ruleOk_parts h
  refine ruw_of ?_
  have h1 := atomV_w hh
  have h2 := wB_valid hb
  unfold wRu
  omega
theorem litT_le {l : Li} (h : atomV l.atom = true) : (litT l).length ≤ 1789 := by
  have := atomV_t h
  unfold litT
  split <;> simp <;> omega
theorem joinTail_le {l : List Li} (h : ∀ t ∈ l, atomV t.atom = true) : (Lib.joinTail [32, 97, 110, 100, 32] (ltxs l)).length ≤ l.length * 1794 := by
  induction l with
  | nil => simp [ltxs, Lib.joinTail]
  | cons a l ih =>
    have h1 := litT_le (h a (by simp))
    have h2 := ih (fun u hu => h u (by simp [hu]))
    have : (Lib.joinTail [32, 97, 110, 100, 32] (ltxs (a :: l))) = [32, 97, 110, 100, 32] ++ litT a ++ Lib.joinTail [32, 97, 110, 100, 32] (ltxs l) := by simp [ltxs, Lib.joinTail]
    rw [this, List.length_cons, Nat.succ_mul]
    simp only [List.length_append, List.length_cons, List.length_nil]
    omega
theorem ok_len {r : Ru} (h : ruleOk r = true) : (ruleT r).length ≤ 16384 := by
  obtain ⟨h8, hh, hb⟩ := ruleOk_parts h
  obtain ⟨hd_, b⟩ := r
  simp only at h8 hh hb
  have h1 := atomV_t hh
  unfold ruleT bodyS
  match b, h8, hb with
  | [], _, _ => simp; omega
  | a :: l, h8, hb =>
    have h2 := litT_le (hb a (by simp))
    have h3 := joinTail_le (l := l) (fun u hu => hb u (by simp [hu]))
    simp only [List.length_cons] at h8
    rw [bodyT_cons]
    simp only [List.isEmpty_cons, Bool.false_eq_true, if_false, List.length_append, List.length_cons, List.length_nil]
    omega

end
/- The walks of Valid for rules, of the printer and of the reference. -/
section
open Go Go.RowKit Go.Shelf
set_option linter.unusedSimpArgs false

theorem allx_take {α : Type} (p : α → Bool) {l : List α} {k : Nat} {t : α} (h : l[k]? = some t) : (l.take (k + 1)).all p = ((l.take k).all p && p t) := by
  obtain ⟨h1, h2⟩ := List.getElem?_eq_some_iff.1 h
  rw [List.take_succ_eq_append_getElem h1, h2, List.all_append]
  simp
theorem allx_no {α : Type} (p : α → Bool) {l : List α} {k : Nat} {t : α} (h : l[k]? = some t) (hp : p t = false) : l.all p = false := by
  refine Bool.eq_false_iff.2 fun hc => ?_
  have := List.all_eq_true.1 hc t (List.mem_of_getElem? h)
  rw [hp] at this
  cases this


end
/- The walk of the reference's Rules: the text of a description. -/
section
open Go Go.RowKit Go.Shelf
set_option linter.unusedSimpArgs false

/-- the text of a description -/
def rulesT : List Ru → List UInt8
  | [] => []
  | r :: l => ruleT r ++ 10 :: rulesT l
theorem rulesT_take {l : List Ru} {k : Nat} {r : Ru} (h : l[k]? = some r) : rulesT (l.take (k + 1)) = rulesT (l.take k) ++ (ruleT r ++ [10]) := by
  induction l generalizing k with
  | nil => simp at h
  | cons a l ih =>
    cases k with
    | zero => simp at h; subst h; simp [rulesT]
    | succ k =>
      have := ih (k := k) (by simpa using h)
      simp [rulesT, this]
theorem rulesT_ok {l : List Ru} (h : l.all ruleOk = true) : (rulesT l).length ≤ l.length * 16385 := by
  induction l with
  | nil => simp [rulesT]
  | cons r l ih =>
    rw [List.all_cons, Bool.and_eq_true] at h
    have h1 := ok_len h.1
    have h2 := ih h.2
    rw [rulesT, List.length_cons, Nat.succ_mul]
    simp only [List.length_append, List.length_cons]
    omega
/-- what Rules returns -/
def rulesO (l : List Ru) : List UInt8 × Nat :=
  if 128 < l.length then ([], 2) else if l.all ruleOk = false then ([], 13) else if 16384 < (rulesT l).length then ([], 2) else (rulesT l, 0)


end
end Go.Proofs.YtmplpbdldcokjaaGreatDoor
