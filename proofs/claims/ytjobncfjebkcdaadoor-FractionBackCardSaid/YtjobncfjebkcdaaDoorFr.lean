/- Plain laws: fractions in lowest terms. -/
import GoSem.Core.World
import Derived.WalkKit
namespace Go.Proofs.YtjobncfjebkcdaaDoor

/-- lowest terms -/
def most : Nat := 1073741824
structure Fr where
  num : Int
  den : Int
deriving DecidableEq
def mkF (n d : Int) : Fr × Int :=
  if d = 0 then (⟨0, 0⟩, 13)
  else if most < n.natAbs / Nat.gcd n.natAbs d.natAbs ∨ most < d.natAbs / Nat.gcd n.natAbs d.natAbs then (⟨0, 0⟩, 12)
  else (⟨if (n < 0) ↔ (d < 0) then ((n.natAbs / Nat.gcd n.natAbs d.natAbs : Nat) : Int) else -((n.natAbs / Nat.gcd n.natAbs d.natAbs : Nat) : Int), ((d.natAbs / Nat.gcd n.natAbs d.natAbs : Nat) : Int)⟩, 0)
def FrOk (f : Fr) : Prop := 1 ≤ f.den ∧ f.den ≤ 1073741824 ∧ -1073741824 ≤ f.num ∧ f.num ≤ 1073741824 ∧ Nat.gcd f.num.natAbs f.den.natAbs = 1
instance (f : Fr) : Decidable (FrOk f) := by unfold FrOk; infer_instance
theorem mkF_zero (n : Int) : mkF n 0 = (⟨0, 0⟩, 13) := by simp [mkF]
theorem mkF_cases (n d : Int) (hd : d ≠ 0) : mkF n d = (⟨0, 0⟩, 12) ∨ ∃ f, mkF n d = (f, 0) := by
  unfold mkF
  rw [if_neg hd]
  split
  · exact Or.inl rfl
  · exact Or.inr ⟨_, rfl⟩
theorem red_eq {a b c d : Nat} (hb : 0 < b) (hd : 0 < d) (h1 : Nat.gcd a b = 1) (h2 : Nat.gcd c d = 1) (h : a * d = c * b) : a = c ∧ b = d := by
  have hbd : b ∣ d := Nat.Coprime.dvd_of_dvd_mul_left (show Nat.Coprime b a by rw [Nat.Coprime, Nat.gcd_comm]; exact h1) ⟨c, by rw [h, Nat.mul_comm]⟩
  have hdb : d ∣ b := Nat.Coprime.dvd_of_dvd_mul_left (show Nat.Coprime d c by rw [Nat.Coprime, Nat.gcd_comm]; exact h2) ⟨a, by rw [← h, Nat.mul_comm]⟩
  have hbd2 := Nat.dvd_antisymm hbd hdb
  subst hbd2
  exact ⟨Nat.eq_of_mul_eq_mul_right hb h, rfl⟩
theorem mkF_iff (n d : Int) (hd : d ≠ 0) (f : Fr) : mkF n d = (f, 0) ↔ FrOk f ∧ n * f.den = f.num * d := by
  have hdn : 0 < d.natAbs := by omega
  have hg : 0 < Nat.gcd n.natAbs d.natAbs := Nat.gcd_pos_of_pos_right _ hdn
  obtain ⟨a, ha⟩ : ∃ a, n.natAbs / Nat.gcd n.natAbs d.natAbs = a := ⟨_, rfl⟩
  obtain ⟨b, hb⟩ : ∃ b, d.natAbs / Nat.gcd n.natAbs d.natAbs = b := ⟨_, rfl⟩
  have h1 : n.natAbs = a * Nat.gcd n.natAbs d.natAbs := by rw [← ha, Nat.div_mul_cancel (Nat.gcd_dvd_left _ _)]
  have h2 : d.natAbs = b * Nat.gcd n.natAbs d.natAbs := by rw [← hb, Nat.div_mul_cancel (Nat.gcd_dvd_right _ _)]
  have hc : Nat.gcd a b = 1 := by rw [← ha, ← hb]; exact Nat.coprime_div_gcd_div_gcd hg
  have hb0 : 0 < b := by
    rcases Nat.eq_zero_or_pos b with h | h
    · rw [h] at h2; omega
    · exact h
  obtain ⟨s, hs⟩ : ∃ s : Int, (if (n < 0 ↔ d < 0) then (a : Int) else -(a : Int)) = s := ⟨_, rfl⟩
  have hsn : s.natAbs = a := by rw [← hs]; split <;> omega
  have hsd : n * b = s * d := by
    generalize Nat.gcd n.natAbs d.natAbs = g at *
    clear ha hb hc hdn hg hb0 hsn
    have e1 : (n.natAbs : Int) = a * g := by rw [h1]; exact Int.natCast_mul _ _
    have e2 : (d.natAbs : Int) = b * g := by rw [h2]; exact Int.natCast_mul _ _
    clear h1 h2
    by_cases hn : n < 0 <;> by_cases hd2 : d < 0
    · rw [if_pos (by simp [hn, hd2])] at hs
      have e3 : n = -(a * g) := by omega
      have e4 : d = -(b * g) := by omega
      rw [e3, e4, ← hs]; grind
    · rw [if_neg (by simp [hn, hd2])] at hs
      have e3 : n = -(a * g) := by omega
      have e4 : d = (b * g) := by omega
      rw [e3, e4, ← hs]; grind
    · rw [if_neg (by simp [hn, hd2])] at hs
      have e3 : n = (a * g) := by omega
      have e4 : d = -(b * g) := by omega
      rw [e3, e4, ← hs]; grind
    · rw [if_pos (by simp [hn, hd2])] at hs
      have e3 : n = (a * g) := by omega
      have e4 : d = (b * g) := by omega
      rw [e3, e4, ← hs]; grind
  have hm : mkF n d = if most < a ∨ most < b then (⟨0, 0⟩, 12) else (⟨s, b⟩, 0) := by
    unfold mkF
    rw [if_neg hd, ha, hb, hs]
  rw [hm]
  constructor
  · intro h
    split at h
    · simp at h
    · rename_i hle
      have h := (Prod.mk.inj h).1
      subst h
      refine ⟨⟨by show (1 : Int) ≤ b; omega, ?_, ?_, ?_, by show Nat.gcd s.natAbs (b : Int).natAbs = 1; rw [hsn]; exact hc⟩, hsd⟩
      · show (b : Int) ≤ _; unfold most at hle; omega
      · show _ ≤ s; unfold most at hle; omega
      · show s ≤ _; unfold most at hle; omega
  · rintro ⟨⟨k1, k2, k3, k4, k5⟩, he⟩
    have he2 : s * f.den = f.num * b := by
      have : (s * f.den) * d = (f.num * b) * d := by grind
      exact Int.eq_of_mul_eq_mul_right hd this
    have hq : s.natAbs = f.num.natAbs ∧ b = f.den.natAbs := by
      refine red_eq hb0 (by omega) (by rw [hsn]; exact hc) k5 ?_
      have := congrArg Int.natAbs he2
      rw [Int.natAbs_mul, Int.natAbs_mul] at this
      simpa using this
    have hden : f.den = b := by omega
    rw [hden] at he2
    have hnum : s = f.num := Int.eq_of_mul_eq_mul_right (by omega) he2
    rw [if_neg (by unfold most; omega)]
    rw [show f = ⟨s, b⟩ from by rw [hnum, ← hden]]

theorem mkF_valid (f : Fr) : mkF f.num f.den = (f, 0) ↔ FrOk f := by
  by_cases hd : f.den = 0
  · rw [hd, mkF_zero]
    constructor
    · intro h; simp at h
    · rintro ⟨h, _⟩; omega
  · rw [mkF_iff _ _ hd]
    exact ⟨fun h => h.1, fun h => ⟨h, rfl⟩⟩
theorem mkF_ok {n d : Int} {f : Fr} (h : mkF n d = (f, 0)) : FrOk f := by
  by_cases hd : d = 0
  · rw [hd, mkF_zero] at h; simp at h
  · exact ((mkF_iff n d hd f).1 h).1
theorem mkF_err {n d : Int} {f : Fr} {e : Int} (h : mkF n d = (f, e)) (he : e ≠ 0) : f = ⟨0, 0⟩ := by
  by_cases hd : d = 0
  · rw [hd, mkF_zero] at h; simp at h; exact h.1.symm
  · rcases mkF_cases n d hd with h2 | ⟨g, h2⟩ <;> rw [h] at h2
    · simp at h2; exact h2.1
    · simp at h2; exact absurd h2.2 he
def addF (a b : Fr) : Fr × Int := if FrOk a ∧ FrOk b then mkF (a.num * b.den + b.num * a.den) (a.den * b.den) else (⟨0, 0⟩, 13)
def subF (a b : Fr) : Fr × Int := if FrOk a ∧ FrOk b then mkF (a.num * b.den - b.num * a.den) (a.den * b.den) else (⟨0, 0⟩, 13)
def mulF (a b : Fr) : Fr × Int := if FrOk a ∧ FrOk b then mkF (a.num * b.num) (a.den * b.den) else (⟨0, 0⟩, 13)
def divF (a b : Fr) : Fr × Int := if FrOk a ∧ FrOk b then (if b.num = 0 then (⟨0, 0⟩, 12) else mkF (a.num * b.den) (a.den * b.num)) else (⟨0, 0⟩, 13)
def cmpF (a b : Fr) : Int := if a.num * b.den < b.num * a.den then -1 else if b.num * a.den < a.num * b.den then 1 else 0
theorem FrOk.pos {f : Fr} (h : FrOk f) : 0 < f.den := by have := h.1; omega
theorem FrOk.ne {f : Fr} (h : FrOk f) : f.den ≠ 0 := by have := h.1; omega
theorem den_ne {a b : Fr} (ha : FrOk a) (hb : FrOk b) : a.den * b.den ≠ 0 := Int.mul_ne_zero ha.ne hb.ne
theorem addF_iff {a b s : Fr} (ha : FrOk a) (hb : FrOk b) : addF a b = (s, 0) ↔ FrOk s ∧ (a.num * b.den + b.num * a.den) * s.den = s.num * (a.den * b.den) := by
  rw [addF, if_pos ⟨ha, hb⟩, mkF_iff _ _ (den_ne ha hb)]
theorem subF_iff {a b s : Fr} (ha : FrOk a) (hb : FrOk b) : subF a b = (s, 0) ↔ FrOk s ∧ (a.num * b.den - b.num * a.den) * s.den = s.num * (a.den * b.den) := by
  rw [subF, if_pos ⟨ha, hb⟩, mkF_iff _ _ (den_ne ha hb)]
theorem mulF_iff {a b s : Fr} (ha : FrOk a) (hb : FrOk b) : mulF a b = (s, 0) ↔ FrOk s ∧ (a.num * b.num) * s.den = s.num * (a.den * b.den) := by
  rw [mulF, if_pos ⟨ha, hb⟩, mkF_iff _ _ (den_ne ha hb)]
theorem divF_iff {a b s : Fr} (ha : FrOk a) (hb : FrOk b) (h0 : b.num ≠ 0) : divF a b = (s, 0) ↔ FrOk s ∧ (a.num * b.den) * s.den = s.num * (a.den * b.num) := by
  rw [divF, if_pos ⟨ha, hb⟩, if_neg h0, mkF_iff _ _ (Int.mul_ne_zero ha.ne h0)]
theorem addF_comm (a b : Fr) : addF a b = addF b a := by
  unfold addF
  rw [show a.num * b.den + b.num * a.den = b.num * a.den + a.num * b.den from Int.add_comm _ _, Int.mul_comm a.den b.den]
  by_cases h : FrOk a ∧ FrOk b
  · rw [if_pos h, if_pos ⟨h.2, h.1⟩]
  · rw [if_neg h, if_neg (fun k => h ⟨k.2, k.1⟩)]
theorem mulF_comm (a b : Fr) : mulF a b = mulF b a := by
  unfold mulF
  rw [Int.mul_comm a.num b.num, Int.mul_comm a.den b.den]
  by_cases h : FrOk a ∧ FrOk b
  · rw [if_pos h, if_pos ⟨h.2, h.1⟩]
  · rw [if_neg h, if_neg (fun k => h ⟨k.2, k.1⟩)]
theorem add_sub {a b s : Fr} (ha : FrOk a) (hb : FrOk b) (h : addF a b = (s, 0)) : subF s b = (a, 0) := by
  obtain ⟨hs, he⟩ := (addF_iff ha hb).1 h
  refine (subF_iff hs hb).2 ⟨ha, Int.eq_of_mul_eq_mul_right hb.ne ?_⟩
  grind
theorem mul_div {a b p : Fr} (ha : FrOk a) (hb : FrOk b) (h0 : b.num ≠ 0) (h : mulF a b = (p, 0)) : divF p b = (a, 0) := by
  obtain ⟨hs, he⟩ := (mulF_iff ha hb).1 h
  refine (divF_iff hs hb h0).2 ⟨ha, ?_⟩
  grind
theorem distrib {a b c s l x y : Fr} (ha : FrOk a) (hb : FrOk b) (hc : FrOk c) (h1 : addF a b = (s, 0)) (h2 : mulF s c = (l, 0)) (h3 : mulF a c = (x, 0)) (h4 : mulF b c = (y, 0)) : addF x y = (l, 0) := by
  obtain ⟨hs, e1⟩ := (addF_iff ha hb).1 h1
  obtain ⟨hl, e2⟩ := (mulF_iff hs hc).1 h2
  obtain ⟨hx, e3⟩ := (mulF_iff ha hc).1 h3
  obtain ⟨hy, e4⟩ := (mulF_iff hb hc).1 h4
  refine (addF_iff hx hy).2 ⟨hl, ?_⟩
  have hk : a.den * b.den * c.den * s.den ≠ 0 := Int.mul_ne_zero (Int.mul_ne_zero (Int.mul_ne_zero ha.ne hb.ne) hc.ne) hs.ne
  refine Int.eq_of_mul_eq_mul_right hk ?_
  generalize a.num = an at *; generalize b.num = bn at *; generalize c.num = cn at *; generalize s.num = sn at *; generalize l.num = ln at *; generalize x.num = xn at *; generalize y.num = yn at *
  generalize a.den = ad at *; generalize b.den = bd at *; generalize c.den = cd at *; generalize s.den = sd at *; generalize l.den = ld at *; generalize x.den = xd at *; generalize y.den = yd at *
  clear h1 h2 h3 h4 ha hb hc hs hl hx hy hk
  calc (xn * yd + yn * xd) * ld * (ad * bd * cd * sd) = (xn * (ad * cd)) * (yd * ld * bd * sd) + (yn * (bd * cd)) * (xd * ld * ad * sd) := by grind
    _ = (an * cn * xd) * (yd * ld * bd * sd) + (bn * cn * yd) * (xd * ld * ad * sd) := by rw [← e3, ← e4]
    _ = ((an * bd + bn * ad) * sd) * (cn * xd * yd * ld) := by grind
    _ = (sn * (ad * bd)) * (cn * xd * yd * ld) := by rw [e1]
    _ = (sn * cn * ld) * (ad * bd * xd * yd) := by grind
    _ = (ln * (sd * cd)) * (ad * bd * xd * yd) := by rw [e2]
    _ = ln * (xd * yd) * (ad * bd * cd * sd) := by grind

theorem cross_eq {a b : Fr} (ha : FrOk a) (hb : FrOk b) : a.num * b.den = b.num * a.den ↔ a = b := by
  constructor
  · intro h
    have h1 := (mkF_iff a.num a.den ha.ne b).2 ⟨hb, h⟩
    rw [(mkF_valid a).2 ha] at h1
    exact (Prod.mk.inj h1).1
  · rintro rfl; rfl
theorem cmp_zero {a b : Fr} (ha : FrOk a) (hb : FrOk b) : cmpF a b = 0 ↔ a = b := by
  rw [← cross_eq ha hb]
  unfold cmpF
  split
  · constructor <;> intro h <;> omega
  · split
    · constructor <;> intro h <;> omega
    · constructor <;> intro h <;> omega
theorem cmp_neg (a b : Fr) : cmpF a b = -cmpF b a := by
  unfold cmpF
  split
  · rw [if_neg (by omega)]
  · split <;> rfl
theorem cmp_le (a b : Fr) : cmpF a b ≤ 0 ↔ a.num * b.den ≤ b.num * a.den := by
  unfold cmpF
  split
  · constructor <;> intro h <;> omega
  · split
    · constructor <;> intro h <;> omega
    · constructor <;> intro h <;> omega
theorem cmp_trans {a b c : Fr} (ha : FrOk a) (hb : FrOk b) (hc : FrOk c) (h1 : cmpF a b ≤ 0) (h2 : cmpF b c ≤ 0) : cmpF a c ≤ 0 := by
  rw [cmp_le] at *
  have p1 := Int.mul_le_mul_of_nonneg_right h1 (Int.le_of_lt hc.pos)
  have p2 := Int.mul_le_mul_of_nonneg_right h2 (Int.le_of_lt ha.pos)
  refine Int.le_of_mul_le_mul_right (a := b.den) ?_ hb.pos
  calc a.num * c.den * b.den = a.num * b.den * c.den := by grind
    _ ≤ b.num * a.den * c.den := p1
    _ = b.num * c.den * a.den := by grind
    _ ≤ c.num * b.den * a.den := p2
    _ = c.num * a.den * b.den := by grind
theorem cmp_sub {a b d : Fr} (ha : FrOk a) (hb : FrOk b) (h : subF b a = (d, 0)) : 0 < d.num ↔ cmpF a b < 0 := by
  obtain ⟨hd, e⟩ := (subF_iff hb ha).1 h
  have hp : 0 < b.den * a.den := Int.mul_pos hb.pos ha.pos
  have hq := hd.pos
  have hc : cmpF a b < 0 ↔ 0 < b.num * a.den - a.num * b.den := by
    unfold cmpF
    split
    · constructor <;> intro h <;> omega
    · split
      · constructor <;> intro h <;> omega
      · constructor <;> intro h <;> omega
  rw [hc]
  constructor
  · intro h0
    have : 0 < d.num * (b.den * a.den) := Int.mul_pos h0 hp
    rw [← e] at this
    exact Int.pos_of_mul_pos_left this hq
  · intro h0
    have : 0 < (b.num * a.den - a.num * b.den) * d.den := Int.mul_pos h0 hq
    rw [e] at this
    exact Int.pos_of_mul_pos_left this hp
def roundK (f : Fr) (den : Int) : Int :=
  let k : Int := (((2 * (f.num.natAbs * den.toNat) + f.den.toNat) / (2 * f.den.toNat) : Nat) : Int)
  if f.num < 0 then -k else k
def roundF (f : Fr) (den : Int) : Fr × Int :=
  if FrOk f then (if den < 1 ∨ 1073741824 < den then (⟨0, 0⟩, 12) else mkF (roundK f den) den) else (⟨0, 0⟩, 13)
theorem round_half (n d : Nat) (hd : 0 < d) : (2 * n + d) / (2 * d) = n / d + (if d ≤ 2 * (n % d) then 1 else 0) := by
  have h1 := Nat.div_add_mod n d
  have h2 := Nat.mod_lt n hd
  generalize n / d = q at *
  generalize n % d = r at *
  subst h1
  split
  · rename_i h
    refine Nat.div_eq_of_lt_le ?_ ?_
    · grind
    · grind
  · rename_i h
    refine Nat.div_eq_of_lt_le ?_ ?_
    · grind
    · grind
theorem round_near (f : Fr) (den : Int) (hf : FrOk f) (hd : 1 ≤ den) : -f.den ≤ 2 * (roundK f den * f.den - f.num * den) ∧ 2 * (roundK f den * f.den - f.num * den) ≤ f.den := by
  have hp := hf.pos
  obtain ⟨d, hdd⟩ : ∃ d : Nat, f.den = d := ⟨f.den.toNat, by omega⟩
  obtain ⟨m, rfl⟩ : ∃ m : Nat, den = m := ⟨den.toNat, by omega⟩
  unfold roundK
  simp only [hdd, Int.toNat_natCast]
  rw [hdd] at hp
  have hd0 : 0 < d := by omega
  generalize hn : f.num.natAbs * m = n
  have hq := round_half n d hd0
  have h1 := Nat.div_add_mod n d
  have h2 := Nat.mod_lt n hd0
  rw [hq]
  have hs : f.num * m = if f.num < 0 then -(n : Int) else (n : Int) := by
    rw [← hn, Int.natCast_mul]
    split
    · rw [show (f.num.natAbs : Int) = -f.num from by omega, Int.neg_mul, Int.neg_neg]
    · rw [show (f.num.natAbs : Int) = f.num from by omega]
  rw [hs]
  generalize n / d = q at *
  generalize n % d = r at *
  subst h1
  have e : ((d * q + r : Nat) : Int) = d * q + r := by simp
  rw [e]
  have e2 : ∀ t : Nat, ((q + t : Nat) : Int) * d = q * d + t * d := by intro t; rw [Int.natCast_add, Int.add_mul]
  split
  · split
    · rw [Int.neg_mul, e2 1]; constructor <;> grind
    · rw [Int.neg_mul, e2 0]; constructor <;> grind
  · split
    · rw [e2 1]; constructor <;> grind
    · rw [e2 0]; constructor <;> grind
theorem round_law {f g d1 d2 : Fr} {den : Int} (hf : FrOk f) (h0 : roundF f den = (g, 0)) (h1 : subF g f = (d1, 0)) (h2 : mulF d1 ⟨2, 1⟩ = (d2, 0)) :
    1 ≤ den ∧ den ≤ 1073741824 ∧ FrOk d2 ∧ -d2.den ≤ d2.num * den ∧ d2.num * den ≤ d2.den := by
  unfold roundF at h0
  rw [if_pos hf] at h0
  split at h0
  · simp at h0
  rename_i hden
  have hd1 : 1 ≤ den := by omega
  obtain ⟨hg, e0⟩ := (mkF_iff _ _ (by omega) g).1 h0
  obtain ⟨hd1', e1⟩ := (subF_iff hg hf).1 h1
  obtain ⟨hd2, e2⟩ := (mulF_iff hd1' (by decide)).1 h2
  obtain ⟨n1, n2⟩ := round_near f den hf hd1
  generalize roundK f den = k at *
  have key : d2.num * den * f.den = 2 * (k * f.den - f.num * den) * d2.den := by
    refine Int.eq_of_mul_eq_mul_right (Int.mul_ne_zero hg.ne hd1'.ne) ?_
    simp only at e2
    calc d2.num * den * f.den * (g.den * d1.den) = (d2.num * (d1.den * 1)) * (den * f.den * g.den) := by grind
      _ = (d1.num * 2 * d2.den) * (den * f.den * g.den) := by rw [e2]
      _ = (d1.num * (g.den * f.den)) * (2 * d2.den * den) := by grind
      _ = ((g.num * f.den - f.num * g.den) * d1.den) * (2 * d2.den * den) := by rw [e1]
      _ = (g.num * den) * (2 * f.den * d1.den * d2.den) - 2 * f.num * den * g.den * d1.den * d2.den := by grind
      _ = (k * g.den) * (2 * f.den * d1.den * d2.den) - 2 * f.num * den * g.den * d1.den * d2.den := by rw [e0]
      _ = 2 * (k * f.den - f.num * den) * d2.den * (g.den * d1.den) := by grind
  refine ⟨hd1, by omega, hd2, ?_, ?_⟩
  · refine Int.le_of_mul_le_mul_right (a := f.den) ?_ hf.pos
    rw [key]
    have := Int.mul_le_mul_of_nonneg_right n1 (Int.le_of_lt hd2.pos)
    grind
  · refine Int.le_of_mul_le_mul_right (a := f.den) ?_ hf.pos
    rw [key]
    have := Int.mul_le_mul_of_nonneg_right n2 (Int.le_of_lt hd2.pos)
    grind

def sumFrom (s : Fr) : List Fr → Fr × Int
  | [] => (s, 0)
  | x :: l => if (addF s x).2 = 0 then sumFrom (addF s x).1 l else (⟨0, 0⟩, (addF s x).2)
def sumF (l : List Fr) : Fr × Int := sumFrom ⟨0, 1⟩ l
def meanF (l : List Fr) : Fr × Int :=
  if l = [] then (⟨0, 0⟩, 13) else if (sumF l).2 = 0 then divF (sumF l).1 ⟨l.length, 1⟩ else (⟨0, 0⟩, (sumF l).2)
theorem sumFrom_ok : ∀ (l : List Fr) (s t : Fr), FrOk s → sumFrom s l = (t, 0) → FrOk t ∧ (∀ x ∈ l, FrOk x)
  | [], s, t, hs, h => by
    simp only [sumFrom, Prod.mk.injEq, and_true] at h
    subst h
    exact ⟨hs, by simp⟩
  | x :: l, s, t, hs, h => by
    unfold sumFrom at h
    split at h
    · rename_i hu0
      obtain ⟨u, hu⟩ : ∃ u, addF s x = (u, 0) := ⟨_, by rw [← hu0]⟩
      rw [hu] at h
      have hx : FrOk x := by
        by_cases hx : FrOk x
        · exact hx
        · rw [addF, if_neg (fun k => hx k.2)] at hu; simp at hu
      have hok := ((addF_iff hs hx).1 hu).1
      obtain ⟨h1, h2⟩ := sumFrom_ok l u t hok h
      exact ⟨h1, by intro y hy; rcases List.mem_cons.1 hy with rfl | hy; exact hx; exact h2 y hy⟩
    · rename_i hne
      simp only [Prod.mk.injEq] at h
      exact absurd h.2 hne
theorem sumFrom_low : ∀ (l : List Fr) (s t : Fr) (lo : Fr), FrOk s → FrOk lo → sumFrom s l = (t, 0) → (∀ x ∈ l, lo.num * x.den ≤ x.num * lo.den) →
    (s.num * lo.den + l.length * lo.num * s.den) * t.den ≤ t.num * (lo.den * s.den)
  | [], s, t, lo, hs, hlo, h, hl => by
    simp only [sumFrom, Prod.mk.injEq, and_true] at h
    subst h
    have : ((([] : List Fr).length : Int)) = 0 := rfl
    rw [this]
    grind
  | x :: l, s, t, lo, hs, hlo, h, hl => by
    have hall := sumFrom_ok _ _ _ hs h
    unfold sumFrom at h
    split at h
    · rename_i hu0
      obtain ⟨u, hu⟩ : ∃ u, addF s x = (u, 0) := ⟨_, by rw [← hu0]⟩
      rw [hu] at h
      have hx : FrOk x := hall.2 x (by simp)
      obtain ⟨hok, e⟩ := (addF_iff hs hx).1 hu
      have ih := sumFrom_low l u t lo hok hlo h (fun y hy => hl y (by simp [hy]))
      have hx2 := hl x (by simp)
      have hk : 0 < u.den * x.den := Int.mul_pos hok.pos hx.pos
      refine Int.le_of_mul_le_mul_right (a := u.den * x.den) ?_ hk
      have p1 := Int.mul_le_mul_of_nonneg_right ih (Int.le_of_lt (Int.mul_pos hs.pos hx.pos))
      have p2 := Int.mul_le_mul_of_nonneg_right hx2 (Int.le_of_lt (Int.mul_pos (Int.mul_pos hs.pos hs.pos |> fun h => Int.mul_pos hs.pos hall.1.pos) hok.pos))
      have e2 : ((x :: l).length : Int) = l.length + 1 := by simp
      rw [e2]
      generalize (l.length : Int) = n at *
      have e3 : (s.num * x.den + x.num * s.den) * u.den * (lo.den * t.den) = u.num * (s.den * x.den) * (lo.den * t.den) := by rw [e]
      grind
    · rename_i hne
      simp only [Prod.mk.injEq] at h
      exact absurd h.2 hne

theorem sumFrom_high : ∀ (l : List Fr) (s t : Fr) (hi : Fr), FrOk s → FrOk hi → sumFrom s l = (t, 0) → (∀ x ∈ l, x.num * hi.den ≤ hi.num * x.den) →
    t.num * (hi.den * s.den) ≤ (s.num * hi.den + l.length * hi.num * s.den) * t.den
  | [], s, t, hi, hs, hlo, h, hl => by
    simp only [sumFrom, Prod.mk.injEq, and_true] at h
    subst h
    have : ((([] : List Fr).length : Int)) = 0 := rfl
    rw [this]
    grind
  | x :: l, s, t, hi, hs, hlo, h, hl => by
    have hall := sumFrom_ok _ _ _ hs h
    unfold sumFrom at h
    split at h
    · rename_i hu0
      obtain ⟨u, hu⟩ : ∃ u, addF s x = (u, 0) := ⟨_, by rw [← hu0]⟩
      rw [hu] at h
      have hx : FrOk x := hall.2 x (by simp)
      obtain ⟨hok, e⟩ := (addF_iff hs hx).1 hu
      have ih := sumFrom_high l u t hi hok hlo h (fun y hy => hl y (by simp [hy]))
      have hx2 := hl x (by simp)
      have hk : 0 < u.den * x.den := Int.mul_pos hok.pos hx.pos
      refine Int.le_of_mul_le_mul_right (a := u.den * x.den) ?_ hk
      have p1 := Int.mul_le_mul_of_nonneg_right ih (Int.le_of_lt (Int.mul_pos hs.pos hx.pos))
      have p2 := Int.mul_le_mul_of_nonneg_right hx2 (Int.le_of_lt (Int.mul_pos (Int.mul_pos hs.pos hs.pos |> fun h => Int.mul_pos hs.pos hall.1.pos) hok.pos))
      have e2 : ((x :: l).length : Int) = l.length + 1 := by simp
      rw [e2]
      generalize (l.length : Int) = n at *
      have e3 : (s.num * x.den + x.num * s.den) * u.den * (hi.den * t.den) = u.num * (s.den * x.den) * (hi.den * t.den) := by rw [e]
      grind
    · rename_i hne
      simp only [Prod.mk.injEq] at h
      exact absurd h.2 hne
theorem mean_ok {l : List Fr} {m : Fr} (h : meanF l = (m, 0)) (hl : (l.length : Int) ≤ 1073741824) : l ≠ [] ∧ (∀ x ∈ l, FrOk x) ∧ FrOk m ∧
    ∀ lo hi, FrOk lo → FrOk hi → (∀ x ∈ l, cmpF lo x ≤ 0) → (∀ x ∈ l, cmpF x hi ≤ 0) → cmpF lo m ≤ 0 ∧ cmpF m hi ≤ 0 := by
  unfold meanF at h
  split at h
  · simp at h
  rename_i hne
  split at h
  · rename_i h0
    obtain ⟨s, hs⟩ : ∃ s, sumF l = (s, 0) := ⟨_, by rw [← h0]⟩
    rw [hs] at h
    obtain ⟨hok, hall⟩ := sumFrom_ok l _ s (by decide) hs
    have hlen : 1 ≤ (l.length : Int) := by cases l; exact absurd rfl hne; simp; omega
    have hn : FrOk ⟨l.length, 1⟩ := ⟨by show (1 : Int) ≤ 1; omega, by show (1 : Int) ≤ _; omega, by show _ ≤ (l.length : Int); omega, hl, by simp⟩
    obtain ⟨hm, e⟩ := (divF_iff hok hn (by show (l.length : Int) ≠ 0; omega)).1 h
    simp only at e
    refine ⟨hne, hall, hm, fun lo hi hlo hhi h1 h2 => ?_⟩
    have b1 := sumFrom_low l _ s lo (by decide) hlo hs (fun x hx => (cmp_le _ _).1 (h1 x hx))
    have b2 := sumFrom_high l _ s hi (by decide) hhi hs (fun x hx => (cmp_le _ _).1 (h2 x hx))
    rw [cmp_le, cmp_le]
    simp only at b1 b2
    generalize (l.length : Int) = n at *
    have hk : 0 < s.den * n := Int.mul_pos hok.pos (by omega)
    constructor
    · refine Int.le_of_mul_le_mul_right (a := s.den * n) ?_ hk
      have p1 := Int.mul_le_mul_of_nonneg_right b1 (Int.le_of_lt hm.pos)
      have e3 : s.num * 1 * m.den * lo.den = m.num * (s.den * n) * lo.den := by rw [e]
      grind
    · refine Int.le_of_mul_le_mul_right (a := s.den * n) ?_ hk
      have p1 := Int.mul_le_mul_of_nonneg_right b2 (Int.le_of_lt hm.pos)
      have e3 : s.num * 1 * m.den * hi.den = m.num * (s.den * n) * hi.den := by rw [e]
      grind
  · rename_i hne2
    simp only [Prod.mk.injEq] at h
    exact absurd h.2 hne2
end Go.Proofs.YtjobncfjebkcdaaDoor
