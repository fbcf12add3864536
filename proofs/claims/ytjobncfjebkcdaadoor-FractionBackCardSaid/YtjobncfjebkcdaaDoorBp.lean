/- Fractions from their text: what both readers find (plain). -/
import Derived.Test.YtjobncfjebkcdaaDoorFt
import Derived.Lib.AtoiAllCases
import Derived.Lib.ItoaNum
import Derived.Lib.CutLaws
namespace Go.Proofs.YtjobncfjebkcdaaDoor
open Go Go.RowKit Go.Shelf
set_option linter.unusedSimpArgs false

theorem index_app (c : UInt8) : ∀ (p r : List UInt8), c ∉ p → Lib.index (p ++ c :: r) [c] = (p.length : Int)
  | [], r, _ => by simp [Lib.index]
  | b :: p, r, h => by
    have hb : (c == b) = false := by rw [beq_eq_false_iff_ne]; rintro rfl; exact h (by simp)
    have ih := index_app c p r (fun hm => h (by simp [hm]))
    have e : ((p.length : Int) == -1) = false := by rw [beq_eq_false_iff_ne]; omega
    rw [List.cons_append, Lib.index, ih, e]
    simp [beq_eq_false_iff_ne.1 hb]
theorem index_not (c : UInt8) : ∀ (p : List UInt8), c ∉ p → Lib.index p [c] = -1
  | [], _ => rfl
  | b :: p, h => by
    have hb : (c == b) = false := by rw [beq_eq_false_iff_ne]; rintro rfl; exact h (by simp)
    rw [Lib.index, index_not c p (fun hm => h (by simp [hm]))]
    simp [beq_eq_false_iff_ne.1 hb]
theorem cut_app (c : UInt8) (p r : List UInt8) (h : c ∉ p) : Lib.cut (p ++ c :: r) [c] = (p, r, true) := by
  unfold Lib.cut
  rw [index_app c p r h, if_pos (by omega)]
  simp
theorem cut_not (c : UInt8) (p : List UInt8) (h : c ∉ p) : Lib.cut p [c] = (p, [], false) := by
  unfold Lib.cut
  rw [index_not c p h, if_neg (by omega)]

def dgB (c : UInt8) : Bool := decide (48 ≤ c.toNat) && decide (c.toNat ≤ 57)
theorem dg_of {u : Nat} (h : u < 10) : (UInt8.ofNat (48 + u)).toNat = 48 + u := by simp; omega
theorem decD_ind (P : Nat → List UInt8 → Prop) (h1 : ∀ u, u < 10 → P u [UInt8.ofNat (48 + u)]) (h2 : ∀ u, ¬ u < 10 → P (u / 10) (Lib.decDigits (u / 10)) → P u (Lib.decDigits (u / 10) ++ [UInt8.ofNat (48 + u % 10)])) : ∀ u, P u (Lib.decDigits u) := by
  intro u
  induction u using Nat.strongRecOn with
  | ind u ih =>
    by_cases h : u < 10
    · rw [Lib.decDigits, dif_pos h]; exact h1 u h
    · rw [Lib.decDigits, dif_neg h]; exact h2 u h (ih (u / 10) (by omega))
theorem decD_dg (u : Nat) : ∀ c ∈ Lib.decDigits u, dgB c = true := by
  refine decD_ind (fun _ l => ∀ c ∈ l, dgB c = true) ?_ ?_ u
  · intro u hu c hc
    simp only [List.mem_singleton] at hc
    subst hc
    unfold dgB
    rw [dg_of hu]
    simp; omega
  · intro u hu ih c hc
    rcases List.mem_append.1 hc with hc | hc
    · exact ih c hc
    · simp only [List.mem_singleton] at hc
      subst hc
      unfold dgB
      rw [dg_of (by omega)]
      simp; omega
theorem decD_ne (u : Nat) : Lib.decDigits u ≠ [] := decD_ind (fun _ l => l ≠ []) (fun _ _ => by simp) (fun _ _ _ => by simp) u
theorem pu_dec (u : Nat) : ∀ r, u < 18446744073709551616 → Lib.parseUint10 0 (Lib.decDigits u ++ r) = Lib.parseUint10 u r := by
  refine decD_ind (fun u l => ∀ r, u < 18446744073709551616 → Lib.parseUint10 0 (l ++ r) = Lib.parseUint10 u r) ?_ ?_ u
  · intro u hu r _
    rw [List.singleton_append, Lib.parseUint10, dg_of hu, if_pos (by omega), if_neg (by omega), if_neg (by omega)]
    congr 1
    omega
  · intro u hu ih r hr
    rw [List.append_assoc, ih _ (by omega), List.singleton_append, Lib.parseUint10, dg_of (by omega), if_pos (by omega), if_neg (by omega), if_neg (by omega)]
    congr 1
    omega
theorem mag_dec (u : Nat) (h : u < 18446744073709551616) : Lib.parseMag (Lib.decDigits u) = .ok u := by
  unfold Lib.parseMag
  rw [if_neg (decD_ne u)]
  have := pu_dec u [] h
  rw [List.append_nil] at this
  rw [this]
  rfl
theorem itoa_nn {n : Int} (h : 0 ≤ n) : Lib.itoa n = Lib.decDigits n.natAbs := by
  unfold Lib.itoa
  rw [if_neg (by omega)]
  congr 1
  omega
theorem itoa_ng {n : Int} (h : n < 0) : Lib.itoa n = 45 :: Lib.decDigits n.natAbs := by
  unfold Lib.itoa
  rw [if_pos h]
theorem atoi_itoa (n : Int) (hn : I64 n) : Lib.atoiAll (Lib.itoa n) = .ok n := by
  obtain ⟨h0, h1⟩ := hn
  by_cases h : n < 0
  · rw [itoa_ng h, Lib.atoiAll_minus, mag_dec _ (by omega)]
    show (if 9223372036854775808 < n.natAbs then _ else _) = _
    rw [if_neg (by omega)]
    congr 1
    omega
  · rw [itoa_nn (by omega)]
    obtain ⟨c, r, hc⟩ := List.exists_cons_of_ne_nil (decD_ne n.natAbs)
    have hd := decD_dg n.natAbs c (by rw [hc]; simp)
    unfold dgB at hd
    simp only [Bool.and_eq_true, decide_eq_true_eq] at hd
    have hm := mag_dec n.natAbs (by omega)
    rw [hc] at hm ⊢
    rw [Lib.atoiAll_plain c r (by omega) (by omega), hm]
    show (if 9223372036854775808 ≤ n.natAbs then _ else _) = _
    rw [if_neg (by omega)]
    congr 1
    omega
theorem slash_decD (u : Nat) : (47 : UInt8) ∉ Lib.decDigits u := fun h => by have := decD_dg u 47 h; exact absurd this (by decide)
theorem slash_itoa (n : Int) : (47 : UInt8) ∉ Lib.itoa n := by
  by_cases h : n < 0
  · rw [itoa_ng h]
    intro hm
    rcases List.mem_cons.1 hm with hm | hm
    · exact absurd hm (by decide)
    · exact slash_decD _ hm
  · rw [itoa_nn (by omega)]; exact slash_decD _

/-- the program's candidate -/
def denS (s : List UInt8) : List UInt8 := if (Lib.cut s [47]).2.2 then (Lib.cut s [47]).2.1 else [49]
def candF (s : List UInt8) : Option Fr :=
  match Lib.atoiAll (Lib.cut s [47]).1, Lib.atoiAll (denS s) with
  | .ok n, .ok d => some ⟨n, d⟩
  | _, _ => none
/-- what Parse gives -/
def parseF (s : List UInt8) : Fr × Int :=
  match candF s with
  | some f => if FrOk f ∧ textF f = s then (f, 0) else (⟨0, 0⟩, 1)
  | none => (⟨0, 0⟩, 1)
theorem cand_text {f : Fr} (hf : FrOk f) : candF (textF f) = some f := by
  have hfi := hf.fi
  unfold candF denS textF
  by_cases h : f.den = 1
  · rw [if_pos h, cut_not 47 _ (slash_itoa _)]
    simp only [Bool.false_eq_true, if_false]
    rw [atoi_itoa _ hfi.1, show Lib.atoiAll [49] = .ok 1 from rfl]
    obtain ⟨n, d⟩ := f
    simp only at h
    subst h
    rfl
  · rw [if_neg h, List.append_assoc, List.singleton_append, cut_app 47 _ _ (slash_itoa _)]
    simp only [if_true]
    rw [atoi_itoa _ hfi.1, atoi_itoa _ hfi.2]
theorem parse_text {f : Fr} (hf : FrOk f) : parseF (textF f) = (f, 0) := by
  unfold parseF
  rw [cand_text hf]
  exact if_pos ⟨hf, rfl⟩
theorem parse_cases (s : List UInt8) : (∃ f, FrOk f ∧ textF f = s ∧ parseF s = (f, 0)) ∨ (parseF s = (⟨0, 0⟩, 1) ∧ ∀ f, FrOk f → textF f ≠ s) := by
  by_cases h : ∃ f, FrOk f ∧ textF f = s
  · obtain ⟨f, h1, rfl⟩ := h
    exact .inl ⟨f, h1, rfl, parse_text h1⟩
  · refine .inr ⟨?_, fun f h1 h2 => h ⟨f, h1, h2⟩⟩
    unfold parseF
    cases hc : candF s with
    | none => rfl
    | some f => exact if_neg (fun hh => h ⟨f, hh⟩)

/-- the reference's reading of a number -/
def wholeGo (n : Int) : List UInt8 → Int
  | [] => n
  | c :: r => if dgB c then wholeGo (10 * n + ((c.toNat : Int) - 48)) r else -1
def wholeF (l : List UInt8) : Int := if l.length < 1 ∨ 10 < l.length then -1 else wholeGo 0 l
theorem wholeGo_dec (u : Nat) : ∀ r, wholeGo 0 (Lib.decDigits u ++ r) = wholeGo u r := by
  refine decD_ind (fun u l => ∀ r, wholeGo 0 (l ++ r) = wholeGo u r) ?_ ?_ u
  · intro u hu r
    rw [List.singleton_append, wholeGo, dg_of hu, if_pos (by unfold dgB; rw [dg_of hu]; simp; omega)]
    congr 1
    omega
  · intro u hu ih r
    rw [List.append_assoc, ih, List.singleton_append, wholeGo, dg_of (by omega), if_pos (by unfold dgB; rw [dg_of (by omega)]; simp; omega)]
    congr 1
    omega
theorem decD_len {u : Nat} (k : Nat) : u < 10 ^ (k + 1) → (Lib.decDigits u).length ≤ k + 1 := by
  revert k
  refine decD_ind (fun u l => ∀ k, u < 10 ^ (k + 1) → l.length ≤ k + 1) ?_ ?_ u
  · intro u _ k _; simp
  · intro u hu ih k hk
    cases k with
    | zero => omega
    | succ k =>
      have := ih k (by rw [Nat.pow_succ] at hk; omega)
      simp; omega
theorem whole_dec {u : Nat} (h : u ≤ 1073741824) : wholeF (Lib.decDigits u) = u := by
  unfold wholeF
  have h1 : (Lib.decDigits u).length ≤ 10 := decD_len 9 (by omega)
  have h2 : 0 < (Lib.decDigits u).length := List.length_pos_iff.2 (decD_ne u)
  rw [if_neg (by omega)]
  have := wholeGo_dec u []
  rw [List.append_nil] at this
  exact this
/-- the reference's candidate: the sign, then the two numbers -/
def negF (s : List UInt8) : Bool := s.head? == some 45
def tF (s : List UInt8) : List UInt8 := if negF s then s.tail else s
def atF (t : List UInt8) : Nat := (t.takeWhile (· != 47)).length
def rnumF (s : List UInt8) : Int := wholeF ((tF s).take (atF (tF s)))
def rdenF (s : List UInt8) : Int := if atF (tF s) < (tF s).length then wholeF ((tF s).drop (atF (tF s) + 1)) else 1
def rcandF (s : List UInt8) : Option Fr := if rnumF s < 0 then none else some ⟨if negF s then -rnumF s else rnumF s, rdenF s⟩
theorem tw_app (p r : List UInt8) (h : (47 : UInt8) ∉ p) : (p ++ 47 :: r).takeWhile (· != 47) = p := by
  rw [List.takeWhile_append_of_pos (fun a ha => by simp; rintro rfl; exact h ha)]
  simp
theorem tw_not (p : List UInt8) (h : (47 : UInt8) ∉ p) : p.takeWhile (· != 47) = p := by
  have := List.takeWhile_append_of_pos (p := (· != (47 : UInt8))) (l₁ := p) (l₂ := []) (fun a ha => by simp; rintro rfl; exact h ha)
  simpa using this
theorem rcand_text {f : Fr} (hf : FrOk f) : rcandF (textF f) = some f := by
  have hd1 := hf.1
  have hd2 := hf.2.1
  have hn1 := hf.2.2.1
  have hn2 := hf.2.2.2.1
  have hw1 : wholeF (Lib.decDigits f.num.natAbs) = f.num.natAbs := whole_dec (by omega)
  have hw2 : wholeF (Lib.decDigits f.den.natAbs) = f.den.natAbs := whole_dec (by omega)
  have hs1 := slash_decD f.num.natAbs
  -- the text behind the sign
  have key : ∀ (tl : List UInt8), (tl = [] ∧ f.den = 1 ∨ tl = 47 :: Lib.decDigits f.den.natAbs) → textF f = Lib.itoa f.num ++ tl → rcandF (textF f) = some f := by
    intro tl htl ht
    obtain ⟨c, r, hc⟩ := List.exists_cons_of_ne_nil (decD_ne f.num.natAbs)
    have hcd := decD_dg f.num.natAbs c (by rw [hc]; simp)
    have hng : negF (textF f) = decide (f.num < 0) ∧ tF (textF f) = Lib.decDigits f.num.natAbs ++ tl := by
      by_cases h : f.num < 0
      · rw [ht, itoa_ng h]
        refine ⟨by simp [negF, h], ?_⟩
        simp [tF, negF]
      · have hc45 : (c == 45) = false := by rw [beq_eq_false_iff_ne]; rintro rfl; exact absurd hcd (by decide)
        have hneg : negF (Lib.decDigits f.num.natAbs ++ tl) = false := by rw [hc]; simp [negF, beq_eq_false_iff_ne.1 hc45]
        rw [ht, itoa_nn (by omega)]
        refine ⟨by rw [hneg]; simp; omega, ?_⟩
        unfold tF
        rw [hneg]
        rfl
    have hat : atF (Lib.decDigits f.num.natAbs ++ tl) = (Lib.decDigits f.num.natAbs).length := by
      unfold atF
      rcases htl with ⟨rfl, _⟩ | rfl
      · rw [List.append_nil, tw_not _ hs1]
      · rw [tw_app _ _ hs1]
    have hnum : rnumF (textF f) = f.num.natAbs := by
      unfold rnumF
      rw [hng.2, hat, List.take_left]
      exact hw1
    have hden : rdenF (textF f) = f.den := by
      unfold rdenF
      rw [hng.2, hat]
      rcases htl with ⟨rfl, h1⟩ | rfl
      · rw [List.append_nil, if_neg (by omega), h1]
      · have e : (Lib.decDigits f.num.natAbs ++ 47 :: Lib.decDigits f.den.natAbs).drop ((Lib.decDigits f.num.natAbs).length + 1) = Lib.decDigits f.den.natAbs := by
          rw [List.drop_append, List.drop_eq_nil_of_le (by omega), Nat.add_sub_cancel_left]; rfl
        rw [if_pos (by simp), e]
        show wholeF (Lib.decDigits f.den.natAbs) = f.den
        omega
    unfold rcandF
    rw [hnum, hden, hng.1, if_neg (by omega)]
    obtain ⟨n, d⟩ := f
    simp only [Option.some.injEq, Fr.mk.injEq, and_true, decide_eq_true_eq]
    simp only at hd1
    split <;> omega
  by_cases h : f.den = 1
  · exact key [] (.inl ⟨rfl, h⟩) (by unfold textF; rw [if_pos h, List.append_nil])
  · refine key (47 :: Lib.decDigits f.den.natAbs) (.inr rfl) ?_
    unfold textF
    rw [if_neg h, itoa_nn (n := f.den) (by omega), List.append_assoc]
    rfl
/-- what the reference's Parse gives is what Parse gives -/
theorem rparse_eq (s : List UInt8) : parseF s = match rcandF s with | some f => if FrOk f ∧ textF f = s then (f, 0) else (⟨0, 0⟩, 1) | none => (⟨0, 0⟩, 1) := by
  rcases parse_cases s with ⟨f, h1, rfl, h2⟩ | ⟨h1, h2⟩
  · rw [h2, rcand_text h1]
    exact (if_pos ⟨h1, rfl⟩).symm
  · rw [h1]
    cases hc : rcandF s with
    | none => rfl
    | some f => exact (if_neg (fun hh => h2 f hh.1 hh.2)).symm
end Go.Proofs.YtjobncfjebkcdaaDoor
