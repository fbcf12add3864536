/- The parser's plain functions take tokens from the front and look at one beyond; offsets do not matter. -/
import Derived.Test.YtnlphgpcpdfjhaaDoorLp
namespace Go.Proofs.YtnlphgpcpdfjhaaDoor

def tkey (t : Tok) : Int × List UInt8 := (t.kind, t.text)
/-- the first token, but for its place -/
def hkey (ts : List Tok) : Int × List UInt8 := tkey (hd ts)
theorem kind_key {a b : List Tok} (h : hkey a = hkey b) : (hd a).kind = (hd b).kind := congrArg Prod.fst h
theorem text_key {a b : List Tok} (h : hkey a = hkey b) : (hd a).text = (hd b).text := congrArg Prod.snd h
theorem isT_key {a b : List Tok} (h : hkey a = hkey b) (s : List UInt8) : isT a s = isT b s := by
  unfold isT; rw [kind_key h, text_key h]
theorem begT_key {a b : List Tok} (h : hkey a = hkey b) : begT a = begT b := by
  unfold begT; rw [kind_key h]
theorem hkey_app {p p' r r' : List Tok} (hp : p'.map tkey = p.map tkey) (hr : hkey r' = hkey r) : hkey (p' ++ r') = hkey (p ++ r) := by
  cases p with
  | nil =>
    rw [List.map_nil, List.map_eq_nil_iff] at hp
    subst hp
    exact hr
  | cons t p =>
    rw [List.map_cons] at hp
    obtain ⟨t', q, rfl, h1, h2⟩ := List.map_eq_cons_iff.1 hp
    exact h1
theorem hkey_ne {p p' r r' : List Tok} (hp : p'.map tkey = p.map tkey) (hn : p ≠ []) : hkey (p' ++ r') = hkey (p ++ r) := by
  cases p with
  | nil => exact absurd rfl hn
  | cons t p =>
    rw [List.map_cons] at hp
    obtain ⟨t', q, rfl, h1, h2⟩ := List.map_eq_cons_iff.1 hp
    exact h1
theorem ne_of_kind {ts : List Tok} (h : (hd ts).kind ≠ 0) : ∃ t r, ts = t :: r := by
  cases ts with
  | nil => exact absurd rfl h
  | cons t r => exact ⟨t, r, rfl⟩

/-- f reads v off the front of ts; what it took, and what it does with other texts that begin alike -/
def LocAt {α : Type} (f : List Tok → PR α) (ts : List Tok) : Prop :=
  ∀ v r, f ts = .ok v r → ∃ p, ts = p ++ r ∧ (∀ t ∈ p, t.kind ≠ 0) ∧ ∀ p' r', p'.map tkey = p.map tkey → hkey r' = hkey r → f (p' ++ r') = .ok v r'

theorem argsF_go {tf : List Tok → PR Tm} {n : Nat} {acc : List Tm} {ts ts' : List Tok} {t : Tm} (hc : (acc.length == 4 && begT ts) = false) (ht : tf ts = .ok t ts') :
    argsF tf (n + 1) acc ts = if isT ts' [44] then argsF tf n (acc ++ [t]) ts'.tail else if isT ts' [41] then .ok (acc ++ [t]) ts'.tail else failT ts' 1 := by
  rw [argsF, if_neg (by rw [hc]; exact Bool.false_ne_true), ht]
theorem fail_ne {α : Type} {ts r : List Tok} {e : Int} {v : α} (h : failT ts e = .ok v r) : False := by
  unfold failT at h; cases h
/-- what argsF does where it succeeds -/
theorem argsF_inv {tf : List Tok → PR Tm} {n : Nat} {acc : List Tm} {ts r : List Tok} {v : List Tm} (h : argsF tf (n + 1) acc ts = .ok v r) :
    (acc.length == 4 && begT ts) = false ∧ ∃ t ts', tf ts = .ok t ts' ∧ ((isT ts' [44] = true ∧ argsF tf n (acc ++ [t]) ts'.tail = .ok v r) ∨ (isT ts' [44] = false ∧ isT ts' [41] = true ∧ v = acc ++ [t] ∧ r = ts'.tail)) := by
  rw [argsF] at h
  cases hc : (acc.length == 4 && begT ts) with
  | true => rw [if_pos hc] at h; exact (fail_ne h).elim
  | false =>
    rw [if_neg (by rw [hc]; exact Bool.false_ne_true)] at h
    cases ht : tf ts with
    | err p e => rw [ht] at h; cases h
    | ok t ts' =>
      rw [ht] at h
      simp only at h
      refine ⟨rfl, t, ts', rfl, ?_⟩
      cases hi : isT ts' [44] with
      | true => rw [if_pos hi] at h; exact .inl ⟨rfl, h⟩
      | false =>
        rw [if_neg (by rw [hi]; exact Bool.false_ne_true)] at h
        cases hj : isT ts' [41] with
        | true => rw [if_pos hj] at h; cases h; exact .inr ⟨rfl, rfl, rfl, rfl⟩
        | false => rw [if_neg (by rw [hj]; exact Bool.false_ne_true)] at h; exact (fail_ne h).elim

theorem mem_snoc {p1 p2 : List Tok} {c : Tok} (h1 : ∀ t ∈ p1, t.kind ≠ 0) (hc : c.kind ≠ 0) (h2 : ∀ t ∈ p2, t.kind ≠ 0) : ∀ t ∈ p1 ++ c :: p2, t.kind ≠ 0 := by
  intro t ht
  rcases List.mem_append.1 ht with ht | ht
  · exact h1 t ht
  · rcases List.mem_cons.1 ht with rfl | ht
    · exact hc
    · exact h2 t ht

theorem loc_args (tf : List Tok → PR Tm) (H : ∀ ts, LocAt tf ts) : ∀ (n : Nat) (acc : List Tm) (ts : List Tok), LocAt (argsF tf n acc) ts := by
  intro n
  induction n with
  | zero => intro acc ts v r h; exact (fail_ne h).elim
  | succ n ih =>
    intro acc ts v r h
    obtain ⟨hc, t, ts', ht, h⟩ := argsF_inv h
    obtain ⟨p1, e1, k1, g1⟩ := H ts t ts' ht
    rcases h with ⟨hi, h⟩ | ⟨hi, hj, rfl, rfl⟩
    · obtain ⟨c, r1, rfl⟩ := ne_of_kind (isT_kind hi)
      obtain ⟨p2, e2, k2, g2⟩ := ih _ _ _ _ h
      rw [List.tail_cons] at e2
      refine ⟨p1 ++ c :: p2, by rw [e1, e2]; simp, mem_snoc k1 (isT_kind hi) k2, fun p' r' hp hr => ?_⟩
      rw [List.map_append, List.map_cons] at hp
      obtain ⟨q1, q2, rfl, hq1, hq2⟩ := List.map_eq_append_iff.1 hp
      obtain ⟨c', q3, rfl, hc', hq3⟩ := List.map_eq_cons_iff.1 hq2
      have hk : hkey (c' :: (q3 ++ r')) = hkey (c :: r1) := hc'
      rw [List.append_assoc, List.cons_append]
      rw [argsF_go (by rw [begT_key (hkey_app hq1 hk), ← e1]; exact hc) (g1 q1 _ hq1 hk), isT_key hk, if_pos hi, List.tail_cons]
      exact g2 q3 r' hq3 hr
    · obtain ⟨c, r1, rfl⟩ := ne_of_kind (isT_kind hj)
      refine ⟨p1 ++ [c], by rw [e1]; simp, mem_snoc k1 (isT_kind hj) (by simp), fun p' r' hp hr => ?_⟩
      rw [List.map_append, List.map_cons] at hp
      obtain ⟨q1, q2, rfl, hq1, hq2⟩ := List.map_eq_append_iff.1 hp
      obtain ⟨c', q3, rfl, hc', hq3⟩ := List.map_eq_cons_iff.1 hq2
      rw [List.map_nil, List.map_eq_nil_iff] at hq3
      subst hq3
      have hk : hkey (c' :: r') = hkey (c :: r1) := hc'
      rw [List.append_assoc, List.cons_append, List.nil_append]
      rw [argsF_go (by rw [begT_key (hkey_app hq1 hk), ← e1]; exact hc) (g1 q1 _ hq1 hk), isT_key hk, if_neg (by rw [hi]; exact Bool.false_ne_true), isT_key hk, if_pos hj, List.tail_cons]

theorem compF_inv {tf : List Tok → PR Tm} {ts r : List Tok} {v : Tm} (h : compF tf ts = .ok v r) :
    (isT ts.tail [40] = true ∧ ∃ l, argsF tf 5 [] ts.tail.tail = .ok l r ∧ v = .mk (hd ts).text l) ∨ (isT ts.tail [40] = false ∧ v = .mk (hd ts).text [] ∧ r = ts.tail) := by
  rw [compF] at h
  cases hi : isT ts.tail [40] with
  | true =>
    rw [if_pos hi] at h
    cases ha : argsF tf 5 [] ts.tail.tail with
    | err p e => rw [ha] at h; cases h
    | ok l r' => rw [ha] at h; cases h; exact .inl ⟨rfl, l, rfl, rfl⟩
  | false => rw [if_neg (by rw [hi]; exact Bool.false_ne_true)] at h; cases h; exact .inr ⟨rfl, rfl, rfl⟩
theorem loc_comp (tf : List Tok → PR Tm) (H : ∀ ts, LocAt tf ts) (ts : List Tok) (hk0 : (hd ts).kind ≠ 0) : LocAt (compF tf) ts := by
  intro v r h
  obtain ⟨t, ts1, rfl⟩ := ne_of_kind hk0
  rcases compF_inv h with ⟨hi, l, ha, rfl⟩ | ⟨hi, rfl, rfl⟩
  · rw [List.tail_cons] at hi ha
    obtain ⟨c, r1, rfl⟩ := ne_of_kind (isT_kind hi)
    obtain ⟨p, e, k, g⟩ := loc_args tf H _ _ _ _ _ ha
    rw [List.tail_cons] at e
    refine ⟨t :: c :: p, by rw [e]; simp, mem_snoc (p1 := []) (by simp) hk0 (mem_snoc (p1 := []) (by simp) (isT_kind hi) k), fun p' r' hp hr => ?_⟩
    rw [List.map_cons, List.map_cons] at hp
    obtain ⟨t', q, rfl, ht', hp⟩ := List.map_eq_cons_iff.1 hp
    obtain ⟨c', q, rfl, hc', hp⟩ := List.map_eq_cons_iff.1 hp
    have hk : hkey (c' :: (q ++ r')) = hkey (c :: r1) := hc'
    have ht : (hd (t' :: c' :: (q ++ r'))).text = (hd (t :: c :: r1)).text := congrArg Prod.snd ht'
    rw [List.cons_append, List.cons_append, compF, List.tail_cons, isT_key hk, if_pos hi, List.tail_cons, g q r' hp hr, ht]
  · rw [List.tail_cons] at hi
    refine ⟨[t], rfl, mem_snoc (p1 := []) (by simp) hk0 (by simp), fun p' r' hp hr => ?_⟩
    rw [List.map_cons] at hp
    obtain ⟨t', q, rfl, ht', hp⟩ := List.map_eq_cons_iff.1 hp
    rw [List.map_nil, List.map_eq_nil_iff] at hp
    subst hp
    have ht : (hd (t' :: r')).text = (hd (t :: r)).text := congrArg Prod.snd ht'
    rw [List.cons_append, List.nil_append, compF, List.tail_cons, isT_key hr, if_neg (by rw [hi]; exact Bool.false_ne_true), ht]

theorem termF_inv {d : Nat} {ts r : List Tok} {v : Tm} (h : termF (d + 1) ts = .ok v r) :
    begT ts = true ∧ (((hd ts).kind = 1 ∧ compF (termF d) ts = .ok v r) ∨ ((hd ts).kind ≠ 1 ∧ v = .mk (hd ts).text [] ∧ r = ts.tail)) := by
  rw [termF] at h
  cases hb : begT ts with
  | false => rw [if_neg (by rw [hb]; exact Bool.false_ne_true)] at h; exact (fail_ne h).elim
  | true =>
    rw [if_pos hb] at h
    refine ⟨rfl, ?_⟩
    cases hk : (hd ts).kind == 1 with
    | true => rw [if_pos hk] at h; exact .inl ⟨beq_iff_eq.1 hk, h⟩
    | false => rw [if_neg (by rw [hk]; exact Bool.false_ne_true)] at h; cases h; exact .inr ⟨beq_eq_false_iff_ne.1 hk, rfl, rfl⟩
theorem termF_zero {ts r : List Tok} {v : Tm} (h : termF 0 ts = .ok v r) : False := by
  rw [termF] at h
  split at h <;> exact fail_ne h
theorem loc_term : ∀ (d : Nat) (ts : List Tok), LocAt (termF d) ts := by
  intro d
  induction d with
  | zero => intro ts v r h; exact (termF_zero h).elim
  | succ d ih =>
    intro ts v r h
    obtain ⟨hb, h⟩ := termF_inv h
    rcases h with ⟨hk, h⟩ | ⟨hk, rfl, rfl⟩
    · obtain ⟨p, e, k, g⟩ := loc_comp (termF d) ih ts (begT_kind hb) v r h
      refine ⟨p, e, k, fun p' r' hp hr => ?_⟩
      have hh := hkey_app hp hr
      rw [← e] at hh
      rw [termF, if_pos (by rw [begT_key hh]; exact hb), if_pos (by rw [kind_key hh, hk]; rfl)]
      exact g p' r' hp hr
    · obtain ⟨t, ts1, rfl⟩ := ne_of_kind (begT_kind hb)
      refine ⟨[t], rfl, mem_snoc (p1 := []) (by simp) (begT_kind hb) (by simp), fun p' r' hp hr => ?_⟩
      have hh := hkey_app hp hr
      rw [List.map_cons] at hp
      obtain ⟨t', q, rfl, ht', hp⟩ := List.map_eq_cons_iff.1 hp
      rw [List.map_nil, List.map_eq_nil_iff] at hp
      subst hp
      rw [List.cons_append, List.nil_append] at hh ⊢
      have ht : (hd (t' :: r')).text = (hd (t :: ts1)).text := congrArg Prod.snd ht'
      rw [termF, if_pos (by rw [begT_key hh]; exact hb), if_neg (by rw [kind_key hh]; simpa using hk), ht, List.tail_cons]

theorem atomF_inv {ts r : List Tok} {v : Tm} (h : atomF ts = .ok v r) : (hd ts).kind = 1 ∧ compF (termF 3) ts = .ok v r := by
  rw [atomF] at h
  cases hk : (hd ts).kind == 1 with
  | true => rw [if_pos hk] at h; exact ⟨beq_iff_eq.1 hk, h⟩
  | false => rw [if_neg (by rw [hk]; exact Bool.false_ne_true)] at h; exact (fail_ne h).elim
theorem loc_atom (ts : List Tok) : LocAt atomF ts := by
  intro v r h
  obtain ⟨hk, h⟩ := atomF_inv h
  obtain ⟨p, e, k, g⟩ := loc_comp (termF 3) (loc_term 3) ts (by omega) v r h
  refine ⟨p, e, k, fun p' r' hp hr => ?_⟩
  have hh := hkey_app hp hr
  rw [← e] at hh
  rw [atomF, if_pos (by rw [kind_key hh, hk]; rfl)]
  exact g p' r' hp hr

theorem litF_inv {o : Nat} {ts r : List Tok} {v : Li} (h : litF o ts = .ok v r) :
    (o == 8 && (isT ts [110, 111, 116] || (hd ts).kind == 1)) = false ∧ atomF (if isT ts [110, 111, 116] then ts.tail else ts) = .ok v.atom r ∧ v.neg = isT ts [110, 111, 116] := by
  rw [litF] at h
  cases hc : (o == 8 && (isT ts [110, 111, 116] || (hd ts).kind == 1)) with
  | true => rw [if_pos hc] at h; exact (fail_ne h).elim
  | false =>
    rw [if_neg (by rw [hc]; exact Bool.false_ne_true)] at h
    refine ⟨rfl, ?_⟩
    cases hn : isT ts [110, 111, 116] with
    | true =>
      rw [if_pos hn] at h
      cases ha : atomF ts.tail with
      | err p e => rw [ha] at h; cases h
      | ok t r' => rw [ha] at h; cases h; exact ⟨by rw [if_pos rfl]; exact ha, rfl⟩
    | false =>
      rw [if_neg (by rw [hn]; exact Bool.false_ne_true)] at h
      cases ha : atomF ts with
      | err p e => rw [ha] at h; cases h
      | ok t r' => rw [ha] at h; cases h; exact ⟨by rw [if_neg Bool.false_ne_true]; exact ha, rfl⟩
theorem litF_mk {o : Nat} {ts r : List Tok} {t : Tm} (hc : (o == 8 && (isT ts [110, 111, 116] || (hd ts).kind == 1)) = false) (ha : atomF (if isT ts [110, 111, 116] then ts.tail else ts) = .ok t r) :
    litF o ts = .ok ⟨isT ts [110, 111, 116], t⟩ r := by
  rw [litF, if_neg (by rw [hc]; exact Bool.false_ne_true)]
  cases hn : isT ts [110, 111, 116] with
  | true => rw [hn, if_pos rfl] at ha; rw [if_pos rfl, ha]
  | false => rw [hn, if_neg Bool.false_ne_true] at ha; rw [if_neg Bool.false_ne_true, ha]
theorem loc_lit (o : Nat) (ts : List Tok) : LocAt (litF o) ts := by
  intro v r h
  obtain ⟨hc, ha, hn⟩ := litF_inv h
  cases v with
  | mk ng at_ =>
  simp only at ha hn
  cases hi : isT ts [110, 111, 116] with
  | true =>
    rw [hi, if_pos rfl] at ha
    obtain ⟨c, r1, rfl⟩ := ne_of_kind (isT_kind hi)
    obtain ⟨p, e, k, g⟩ := loc_atom _ _ _ ha
    rw [List.tail_cons] at e
    refine ⟨c :: p, by rw [e]; simp, mem_snoc (p1 := []) (by simp) (isT_kind hi) k, fun p' r' hp hr => ?_⟩
    have hh := hkey_ne (r' := r') (r := r) hp (by simp)
    rw [List.cons_append, ← e] at hh
    rw [List.map_cons] at hp
    obtain ⟨c', q, rfl, hc', hp⟩ := List.map_eq_cons_iff.1 hp
    rw [hn, ← isT_key hh]
    refine litF_mk (by rw [isT_key hh, kind_key hh]; exact hc) ?_
    rw [isT_key hh, hi, if_pos rfl, List.cons_append, List.tail_cons]
    exact g q r' hp hr
  | false =>
    rw [hi, if_neg Bool.false_ne_true] at ha
    obtain ⟨p, e, k, g⟩ := loc_atom _ _ _ ha
    refine ⟨p, e, k, fun p' r' hp hr => ?_⟩
    have hh := hkey_app hp hr
    rw [← e] at hh
    rw [hn, ← isT_key hh]
    refine litF_mk (by rw [isT_key hh, kind_key hh]; exact hc) ?_
    rw [isT_key hh, hi, if_neg Bool.false_ne_true]
    exact g p' r' hp hr

theorem bodyF_inv {n : Nat} {acc : List Li} {ts r : List Tok} {v : List Li} (h : bodyF (n + 1) acc ts = .ok v r) :
    ∃ l ts', litF acc.length ts = .ok l ts' ∧ ((isT ts' [97, 110, 100] = true ∧ bodyF n (acc ++ [l]) ts'.tail = .ok v r) ∨ (isT ts' [97, 110, 100] = false ∧ v = acc ++ [l] ∧ r = ts')) := by
  rw [bodyF] at h
  cases hl : litF acc.length ts with
  | err p e => rw [hl] at h; cases h
  | ok l ts' =>
    rw [hl] at h
    simp only at h
    refine ⟨l, ts', rfl, ?_⟩
    cases hi : isT ts' [97, 110, 100] with
    | true => rw [if_pos hi] at h; exact .inl ⟨rfl, h⟩
    | false => rw [if_neg (by rw [hi]; exact Bool.false_ne_true)] at h; cases h; exact .inr ⟨rfl, rfl, rfl⟩
theorem loc_body : ∀ (n : Nat) (acc : List Li) (ts : List Tok), LocAt (bodyF n acc) ts := by
  intro n
  induction n with
  | zero => intro acc ts v r h; exact (fail_ne h).elim
  | succ n ih =>
    intro acc ts v r h
    obtain ⟨l, ts', hl, h⟩ := bodyF_inv h
    obtain ⟨p1, e1, k1, g1⟩ := loc_lit _ _ _ _ hl
    rcases h with ⟨hi, h⟩ | ⟨hi, rfl, rfl⟩
    · obtain ⟨c, r1, rfl⟩ := ne_of_kind (isT_kind hi)
      obtain ⟨p2, e2, k2, g2⟩ := ih _ _ _ _ h
      rw [List.tail_cons] at e2
      refine ⟨p1 ++ c :: p2, by rw [e1, e2]; simp, mem_snoc k1 (isT_kind hi) k2, fun p' r' hp hr => ?_⟩
      rw [List.map_append, List.map_cons] at hp
      obtain ⟨q1, q2, rfl, hq1, hq2⟩ := List.map_eq_append_iff.1 hp
      obtain ⟨c', q3, rfl, hc', hq3⟩ := List.map_eq_cons_iff.1 hq2
      have hk : hkey (c' :: (q3 ++ r')) = hkey (c :: r1) := hc'
      rw [List.append_assoc, List.cons_append, bodyF, g1 q1 _ hq1 hk]
      simp only
      rw [isT_key hk, if_pos hi, List.tail_cons]
      exact g2 q3 r' hq3 hr
    · refine ⟨p1, e1, k1, fun p' r' hp hr => ?_⟩
      rw [bodyF, g1 p' r' hp hr]
      simp only
      rw [isT_key hr, if_neg (by rw [hi]; exact Bool.false_ne_true)]

theorem ruleF_inv {ts r : List Tok} {v : Ru} (h : ruleF ts = .ok v r) :
    ∃ ts1 ts2, atomF ts = .ok v.head ts1 ∧ ((isT ts1 [105, 102] = true ∧ bodyF 9 [] ts1.tail = .ok v.body ts2) ∨ (isT ts1 [105, 102] = false ∧ v.body = [] ∧ ts2 = ts1)) ∧ isT ts2 [46] = true ∧ r = ts2.tail := by
  rw [ruleF] at h
  cases ha : atomF ts with
  | err p e => rw [ha] at h; cases h
  | ok hh ts1 =>
    rw [ha] at h
    simp only at h
    cases hi : isT ts1 [105, 102] with
    | true =>
      rw [if_pos hi] at h
      cases hb : bodyF 9 [] ts1.tail with
      | err p e => rw [hb] at h; cases h
      | ok b ts2 =>
        rw [hb] at h
        simp only at h
        cases hd : isT ts2 [46] with
        | true => rw [if_pos hd] at h; cases h; exact ⟨ts1, ts2, rfl, .inl ⟨hi, hb⟩, hd, rfl⟩
        | false => rw [if_neg (by rw [hd]; exact Bool.false_ne_true)] at h; exact (fail_ne h).elim
    | false =>
      rw [if_neg (by rw [hi]; exact Bool.false_ne_true)] at h
      simp only at h
      cases hd : isT ts1 [46] with
      | true => rw [if_pos hd] at h; cases h; exact ⟨ts1, ts1, rfl, .inr ⟨hi, rfl, rfl⟩, hd, rfl⟩
      | false => rw [if_neg (by rw [hd]; exact Bool.false_ne_true)] at h; exact (fail_ne h).elim
/-- a rule: whatever stands behind -/
theorem loc_rule (ts : List Tok) (v : Ru) (r : List Tok) (h : ruleF ts = .ok v r) :
    ∃ p, ts = p ++ r ∧ p ≠ [] ∧ (∀ t ∈ p, t.kind ≠ 0) ∧ ∀ p' r', p'.map tkey = p.map tkey → ruleF (p' ++ r') = .ok v r' := by
  obtain ⟨ts1, ts2, ha, hb, hd, rfl⟩ := ruleF_inv h
  cases v with
  | mk hh bb =>
  simp only at ha hb
  obtain ⟨p1, e1, k1, g1⟩ := loc_atom _ _ _ ha
  obtain ⟨c, r2, rfl⟩ := ne_of_kind (isT_kind hd)
  rcases hb with ⟨hi, hb⟩ | ⟨hi, rfl, rfl⟩
  · obtain ⟨i, r1, rfl⟩ := ne_of_kind (isT_kind hi)
    obtain ⟨p2, e2, k2, g2⟩ := loc_body _ _ _ _ _ hb
    rw [List.tail_cons] at e2
    refine ⟨p1 ++ i :: (p2 ++ [c]), by rw [e1, e2]; simp, by simp, mem_snoc k1 (isT_kind hi) (mem_snoc k2 (isT_kind hd) (by simp)), fun p' r' hp => ?_⟩
    rw [List.map_append, List.map_cons, List.map_append, List.map_cons] at hp
    obtain ⟨q1, q2, rfl, hq1, hq2⟩ := List.map_eq_append_iff.1 hp
    obtain ⟨i', q3, rfl, hi', hq3⟩ := List.map_eq_cons_iff.1 hq2
    obtain ⟨q4, q5, rfl, hq4, hq5⟩ := List.map_eq_append_iff.1 hq3
    obtain ⟨c', q6, rfl, hc', hq6⟩ := List.map_eq_cons_iff.1 hq5
    rw [List.map_nil, List.map_eq_nil_iff] at hq6
    subst hq6
    have hk1 : hkey (i' :: (q4 ++ c' :: r')) = hkey (i :: r1) := hi'
    have hk2 : hkey (c' :: r') = hkey (c :: r2) := hc'
    rw [List.append_assoc, List.cons_append, List.append_assoc, List.cons_append, List.nil_append, ruleF, g1 q1 _ hq1 hk1]
    simp only
    rw [isT_key hk1, if_pos hi, List.tail_cons, g2 q4 _ hq4 hk2]
    simp only
    rw [isT_key hk2, if_pos hd, List.tail_cons]
  · refine ⟨p1 ++ [c], by rw [e1]; simp, by simp, mem_snoc k1 (isT_kind hd) (by simp), fun p' r' hp => ?_⟩
    rw [List.map_append, List.map_cons] at hp
    obtain ⟨q1, q2, rfl, hq1, hq2⟩ := List.map_eq_append_iff.1 hp
    obtain ⟨c', q6, rfl, hc', hq6⟩ := List.map_eq_cons_iff.1 hq2
    rw [List.map_nil, List.map_eq_nil_iff] at hq6
    subst hq6
    have hk2 : hkey (c' :: r') = hkey (c :: r2) := hc'
    rw [List.append_assoc, List.cons_append, List.nil_append, ruleF, g1 q1 _ hq1 hk2]
    simp only
    rw [isT_key hk2, if_neg (by rw [hi]; exact Bool.false_ne_true)]
    simp only
    rw [isT_key hk2, if_pos hd, List.tail_cons]

theorem rulesF_inv {n : Nat} {acc : List Ru} {ts r : List Tok} {v : List Ru} (h : rulesF (n + 1) acc ts = .ok v r) :
    ((hd ts).kind = 0 ∧ v = acc ∧ r = ts) ∨ ((hd ts).kind ≠ 0 ∧ (acc.length == 128 && (hd ts).kind == 1) = false ∧ ∃ x ts', ruleF ts = .ok x ts' ∧ rulesF n (acc ++ [x]) ts' = .ok v r) := by
  rw [rulesF] at h
  cases h0 : (hd ts).kind == 0 with
  | true => rw [if_pos h0] at h; cases h; exact .inl ⟨beq_iff_eq.1 h0, rfl, rfl⟩
  | false =>
    rw [if_neg (by rw [h0]; exact Bool.false_ne_true)] at h
    cases hc : (acc.length == 128 && (hd ts).kind == 1) with
    | true => rw [if_pos hc] at h; exact (fail_ne h).elim
    | false =>
      rw [if_neg (by rw [hc]; exact Bool.false_ne_true)] at h
      cases hr : ruleF ts with
      | err p e => rw [hr] at h; cases h
      | ok x ts' => rw [hr] at h; exact .inr ⟨beq_eq_false_iff_ne.1 h0, rfl, x, ts', rfl, h⟩
theorem rulesF_step {n : Nat} {acc : List Ru} {ts ts' : List Tok} {x : Ru} (h0 : (hd ts).kind ≠ 0) (hl : acc.length < 128) (hr : ruleF ts = .ok x ts') : rulesF (n + 1) acc ts = rulesF n (acc ++ [x]) ts' := by
  rw [rulesF, if_neg (by simpa using h0), if_neg (by simp; intro h; omega), hr]
theorem rulesF_stop {n : Nat} {acc : List Ru} {ts : List Tok} (h0 : (hd ts).kind = 0) : rulesF (n + 1) acc ts = .ok acc ts := by
  rw [rulesF, if_pos (by rw [h0]; rfl)]
/-- a list of rules: it goes on behind them, whatever stands there -/
theorem rulesF_reads : ∀ (n : Nat) (acc : List Ru) (ts : List Tok) (out : List Ru) (r : List Tok), rulesF n acc ts = .ok out r →
    ∃ p rs, ts = p ++ r ∧ out = acc ++ rs ∧ (hd r).kind = 0 ∧ (∀ t ∈ p, t.kind ≠ 0) ∧
      ∀ (p' : List Tok), p'.map tkey = p.map tkey → ∀ (m : Nat) (acc' : List Ru) (r' : List Tok), rs.length ≤ m → acc'.length + rs.length ≤ 128 → rulesF m acc' (p' ++ r') = rulesF (m - rs.length) (acc' ++ rs) r' := by
  intro n
  induction n with
  | zero => intro acc ts out r h; exact (fail_ne h).elim
  | succ n ih =>
    intro acc ts out r h
    rcases rulesF_inv h with ⟨h0, rfl, rfl⟩ | ⟨h0, hc, x, ts', hr, h⟩
    · refine ⟨[], [], rfl, by simp, h0, by simp, fun p' hp m acc' r' _ _ => ?_⟩
      rw [List.map_nil, List.map_eq_nil_iff] at hp
      subst hp
      simp
    · obtain ⟨p1, e1, n1, k1, g1⟩ := loc_rule _ _ _ hr
      obtain ⟨p2, rs, e2, e3, h2, k2, g2⟩ := ih _ _ _ _ h
      refine ⟨p1 ++ p2, x :: rs, by rw [e1, e2]; simp, by rw [e3]; simp, h2, ?_, fun p' hp m acc' r' hm hl => ?_⟩
      · intro t ht
        rcases List.mem_append.1 ht with ht | ht
        · exact k1 t ht
        · exact k2 t ht
      · rw [List.map_append] at hp
        obtain ⟨q1, q2, rfl, hq1, hq2⟩ := List.map_eq_append_iff.1 hp
        simp only [List.length_cons] at hm hl
        cases m with
        | zero => omega
        | succ m =>
          have hh := hkey_ne (r' := q2 ++ r') (r := ts') hq1 n1
          rw [← e1] at hh
          rw [List.append_assoc, rulesF_step (by rw [kind_key hh]; exact h0) (by omega) (g1 q1 _ hq1), g2 q2 hq2 m _ r' (by omega) (by simp; omega)]
          rw [List.append_assoc, List.singleton_append]
          congr 1
          simp

/-- the end of the accepted tokens -/
theorem reads_end {p r l0 : List Tok} {e : Tok} (h : p ++ r = l0 ++ [e]) (hr : (hd r).kind = 0) (hp : ∀ t ∈ p, t.kind ≠ 0) (hl : ∀ t ∈ l0, t.kind ≠ 0) (he : e.kind = 0) : p = l0 ∧ r = [e] := by
  rcases List.append_eq_append_iff.1 h with ⟨x, h1, h2⟩ | ⟨x, h1, h2⟩
  · cases x with
    | nil => exact ⟨by simpa using h1.symm, by simpa using h2⟩
    | cons t x =>
      exfalso
      rw [h2] at hr
      exact hl t (by rw [h1]; simp) hr
  · cases x with
    | nil => exact ⟨by simpa using h1, by simpa using h2.symm⟩
    | cons t x =>
      exfalso
      rw [List.cons_append] at h2
      have ht : e = t := by injection h2
      exact hp t (by rw [h1]; simp) (by rw [← ht]; exact he)

theorem tkey_shift (k : Nat) (l : List Tok) : (l.map (shiftT k)).map tkey = l.map tkey := by
  rw [List.map_map]; rfl

/-- the rules of two texts on separate lines -/
theorem parse_lines {a b : List UInt8} {la lb : List Ru} (ha : parseF a = .ok la) (hb : parseF b = .ok lb) (hl : la.length + lb.length ≤ 128) (hs : a.length + 1 + b.length ≤ 16384) : parseF (a ++ 10 :: b) = .ok (la ++ lb) := by
  unfold parseF readF at ha hb ⊢
  cases xa : lexF a with
  | err p e => rw [xa] at ha; cases ha
  | ok ta =>
    cases xb : lexF b with
    | err p e => rw [xb] at hb; cases hb
    | ok tb =>
      rw [xa] at ha
      rw [xb] at hb
      simp only at ha hb
      obtain ⟨_, l0, rfl, hk0, hx⟩ := lexF_ok xa
      obtain ⟨_, l1, rfl, hk1, _⟩ := lexF_ok xb
      rw [hx b hs, xb]
      simp only [LexR.shift, LexR.pre]
      cases ra : rulesF 129 [] (l0 ++ [⟨0, [], a.length⟩]) with
      | err p e => rw [ra] at ha; cases ha
      | ok va r =>
        rw [ra, endF] at ha
        cases rb : rulesF 129 [] (l1 ++ [⟨0, [], b.length⟩]) with
        | err p e => rw [rb] at hb; cases hb
        | ok vb r2 =>
          rw [rb, endF] at hb
          obtain ⟨p, rs, e1, e2, h0, hp, g⟩ := rulesF_reads _ _ _ _ _ ra
          obtain ⟨p2, rs2, e3, e4, h2, hp2, g2⟩ := rulesF_reads _ _ _ _ _ rb
          rw [if_pos (by rw [h0]; rfl)] at ha
          rw [if_pos (by rw [h2]; rfl)] at hb
          cases ha
          cases hb
          rw [List.nil_append] at e2 e4
          subst e2
          subst e4
          obtain ⟨rfl, rfl⟩ := reads_end e1.symm h0 hp hk0 rfl
          obtain ⟨rfl, rfl⟩ := reads_end e3.symm h2 hp2 hk1 rfl
          rw [g p rfl _ _ _ (by omega) (by simp; omega), List.nil_append, List.map_append, g2 _ (tkey_shift _ _) _ _ _ (by omega) (by omega)]
          have hm : ∃ m, 129 - la.length - lb.length = m + 1 := ⟨128 - la.length - lb.length, by omega⟩
          obtain ⟨m, hm⟩ := hm
          rw [hm, rulesF_stop (by rfl), endF, if_pos (by rfl)]

/-- one rule, and a list of one rule -/
theorem rule_one {l : List UInt8} {x : Ru} (h : ruleRF l = .ok x) : parseF l = .ok [x] := by
  unfold ruleRF readF at h
  unfold parseF readF
  cases hx : lexF l with
  | err p e => rw [hx] at h; cases h
  | ok ts =>
    rw [hx] at h
    simp only at h ⊢
    cases hr : ruleF ts with
    | err p e => rw [hr] at h; cases h
    | ok v r =>
      rw [hr, endF] at h
      cases h0 : (hd r).kind == 0 with
      | false => rw [if_neg (by rw [h0]; exact Bool.false_ne_true)] at h; cases h
      | true =>
        rw [if_pos h0] at h
        cases h
        obtain ⟨p, e, hn, hk, _⟩ := loc_rule _ _ _ hr
        have hh : (hd ts).kind ≠ 0 := by
          cases p with
          | nil => exact absurd rfl hn
          | cons t p => rw [e]; exact hk t (by simp)
        rw [rulesF_step hh (by simp) hr, List.nil_append, rulesF_stop (beq_iff_eq.1 h0), endF, if_pos h0]
theorem one_rule {l : List UInt8} {x : Ru} (h : parseF l = .ok [x]) : ruleRF l = .ok x := by
  unfold parseF readF at h
  unfold ruleRF readF
  cases hx : lexF l with
  | err p e => rw [hx] at h; cases h
  | ok ts =>
    rw [hx] at h
    simp only at h ⊢
    cases hr : rulesF 129 [] ts with
    | err p e => rw [hr] at h; cases h
    | ok v r =>
      rw [hr, endF] at h
      cases h0 : (hd r).kind == 0 with
      | false => rw [if_neg (by rw [h0]; exact Bool.false_ne_true)] at h; cases h
      | true =>
        rw [if_pos h0] at h
        have hv : v = [x] := by injection h
        subst hv
        rcases rulesF_inv hr with ⟨_, h1, _⟩ | ⟨hk, hc, y, ts', hy, hrest⟩
        · cases h1
        · rcases rulesF_inv hrest with ⟨hk2, h1, h2⟩ | ⟨_, _, z, ts2, _, hrest2⟩
          · rw [List.nil_append] at h1
            have hxy : x = y := by injection h1
            subst hxy
            rw [hy, endF, ← h2, if_pos h0]
          · exfalso
            obtain ⟨_, rs, _, h3, _⟩ := rulesF_reads _ _ _ _ _ hrest2
            have := congrArg List.length h3
            simp at this
end Go.Proofs.YtnlphgpcpdfjhaaDoor
