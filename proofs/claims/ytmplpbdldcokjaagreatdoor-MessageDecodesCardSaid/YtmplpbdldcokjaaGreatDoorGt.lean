/- The text of a printable description is parsed back to it: plain laws. -/
import Derived.Test.YtmplpbdldcokjaaGreatDoorXj
import Derived.Test.YtmplpbdldcokjaaGreatDoorXf
namespace Go.Proofs.YtmplpbdldcokjaaGreatDoor
open Go Go.RowKit Go.Shelf
set_option linter.unusedSimpArgs false

abbrev Key := Int × List UInt8
def hdK (ks : List Key) : Key := ks.headD (0, [])
def isK (ks : List Key) (s : List UInt8) : Bool := ((hdK ks).1 == 4 || (hdK ks).1 == 5) && (hdK ks).2 == s
theorem hd_key (ts : List Tok) : ((hd ts).kind, (hd ts).text) = hdK (ts.map tkey) := by cases ts <;> rfl
theorem kind_hdK {ts : List Tok} {ks : List Key} (h : ts.map tkey = ks) : (hd ts).kind = (hdK ks).1 := by rw [← h, ← hd_key]
theorem text_hdK {ts : List Tok} {ks : List Key} (h : ts.map tkey = ks) : (hd ts).text = (hdK ks).2 := by rw [← h, ← hd_key]
theorem isT_isK {ts : List Tok} {ks : List Key} (h : ts.map tkey = ks) (s : List UInt8) : isT ts s = isK ks s := by
  unfold isT isK; rw [kind_hdK h, text_hdK h]
theorem tail_K {ts : List Tok} {k : Key} {ks : List Key} (h : ts.map tkey = k :: ks) : ts.tail.map tkey = ks := by
  rw [List.map_tail, h]; rfl

mutual
/-- the tokens of a term -/
def kT : Tm → List Key
  | .mk nm [] => [(kindF nm, nm)]
  | .mk nm (t :: l) => (kindF nm, nm) :: (4, [40]) :: (kT t ++ (kR l ++ [(4, [41])]))
def kR : List Tm → List Key
  | [] => []
  | t :: l => (4, [44]) :: (kT t ++ kR l)
end
theorem kT_head (t : Tm) : ∃ ks, kT t = (kindF t.name, t.name) :: ks := by
  match t with
  | .mk nm [] => exact ⟨_, rfl⟩
  | .mk nm (t :: l) => exact ⟨_, rfl⟩

theorem wordF_cases {l : List UInt8} (h : wordF l = true) : l = [105, 102] ∨ l = [97, 110, 100] ∨ l = [110, 111, 116] := by
  unfold wordF at h
  simpa [or_assoc] using h
theorem name_kind {l : List UInt8} (h : nameF l = true) : kindF l = 1 := by
  have hw : wordF l = false := by
    cases hw : wordF l with
    | false => rfl
    | true => unfold nameF at h; rw [hw] at h; simp at h
  unfold kindF
  rw [hw, h]; rfl
theorem num_kind {l : List UInt8} (h : numF l = true) : kindF l = 1 ∨ kindF l = 2 := by
  have hw : wordF l = false := by
    cases hw : wordF l with
    | false => rfl
    | true => rcases wordF_cases hw with rfl | rfl | rfl <;> revert h <;> decide
  unfold kindF
  rw [hw, h]
  cases nameF l
  · right; rfl
  · left; rfl
theorem var_kind {l : List UInt8} (h : varF l = true) : kindF l = 1 ∨ kindF l = 2 ∨ kindF l = 3 := by
  have hw : wordF l = false := by
    cases hw : wordF l with
    | false => rfl
    | true => rcases wordF_cases hw with rfl | rfl | rfl <;> revert h <;> decide
  unfold kindF
  rw [hw, h]
  cases nameF l <;> cases numF l <;> simp
/-- a name of a valid term -/
theorem valid_kind {d : Nat} {t : Tm} (h : validT true d t = true) : kindF t.name = 1 ∨ kindF t.name = 2 ∨ kindF t.name = 3 := by
  cases d with
  | zero => rw [validT] at h; cases h
  | succ d =>
    rw [validT] at h
    split at h
    · simp only [Bool.or_eq_true, Bool.and_eq_true] at h
      rcases h with (h | h) | ⟨_, h⟩
      · exact .inl (name_kind h)
      · rcases num_kind h with h | h <;> simp [h]
      · exact var_kind h
    · simp only [Bool.and_eq_true] at h
      exact .inl (name_kind h.1.1)
theorem valid_node {d : Nat} {nm : List UInt8} {t : Tm} {l : List Tm} (h : validT true (d + 1) (.mk nm (t :: l)) = true) :
    nameF nm = true ∧ l.length ≤ 3 ∧ validT true d t = true ∧ ∀ u ∈ l, validT true d u = true := by
  rw [validT, if_neg (by simp [Tm.args])] at h
  simp only [Tm.args, Tm.name, Bool.and_eq_true, List.all_cons, List.all_eq_true, decide_eq_true_eq, List.length_cons] at h
  have h4 : l.length + 1 ≤ 4 := of_decide_eq_true h.1.2
  exact ⟨h.1.1, by omega, h.2.1, h.2.2⟩

/-- f reads v off texts whose tokens begin with ks, if what follows is not '(' -/
def Reads {α : Type} (f : List Tok → PR α) (k0 : List Key) (v : α) : Prop :=
  ∀ (ts : List Tok) (ks : List Key), isK ks [40] = false → ts.map tkey = k0 ++ ks → ∃ r, r.map tkey = ks ∧ f ts = .ok v r

theorem args_reads (tf : List Tok → PR Tm) (V : Tm → Prop) (H : ∀ t, V t → Reads tf (kT t) t) : ∀ (l : List Tm) (t : Tm) (n : Nat) (acc : List Tm) (ts : List Tok) (ks : List Key),
    acc.length + l.length ≤ 3 → l.length < n → V t → (∀ u ∈ l, V u) → ts.map tkey = kT t ++ (kR l ++ (4, [41]) :: ks) → ∃ r, r.map tkey = ks ∧ argsF tf n acc ts = .ok (acc ++ t :: l) r := by
  intro l
  induction l with
  | nil =>
    intro t n acc ts ks ha hn ht _ hk
    obtain ⟨n, rfl⟩ : ∃ m, n = m + 1 := ⟨n - 1, by simp at hn; omega⟩
    rw [kR, List.nil_append] at hk
    obtain ⟨r, hr, he⟩ := H t ht ts _ (by rfl) hk
    refine ⟨r.tail, tail_K hr, ?_⟩
    rw [argsF_go (by rw [beq_eq_false_iff_ne.2 (by omega)]; rfl) he, isT_isK hr, if_neg (by rw [show isK ((4, [41]) :: ks) [44] = false from rfl]; exact Bool.false_ne_true), isT_isK hr, if_pos (by rfl)]
  | cons u l ih =>
    intro t n acc ts ks ha hn ht hl hk
    simp only [List.length_cons] at ha hn
    obtain ⟨n, rfl⟩ : ∃ m, n = m + 1 := ⟨n - 1, by omega⟩
    rw [kR, List.cons_append] at hk
    obtain ⟨r, hr, he⟩ := H t ht ts _ (by rfl) hk
    rw [argsF_go (by rw [beq_eq_false_iff_ne.2 (by omega)]; rfl) he, isT_isK hr, if_pos (by rfl)]
    have hr2 := tail_K hr
    rw [List.append_assoc] at hr2
    obtain ⟨r2, h1, h2⟩ := ih u n (acc ++ [t]) r.tail ks (by simp; omega) (by omega) (hl u (by simp)) (fun x hx => hl x (by simp [hx])) hr2
    exact ⟨r2, h1, by rw [h2]; simp⟩
theorem comp_reads (tf : List Tok → PR Tm) (V : Tm → Prop) (H : ∀ t, V t → Reads tf (kT t) t) (nm : List UInt8) (l : List Tm) (hl : l.length ≤ 4) (hv : ∀ u ∈ l, V u) : Reads (compF tf) (kT (.mk nm l)) (.mk nm l) := by
  intro ts ks hks hk
  match l, hl, hv with
  | [], _, _ =>
    rw [kT, List.singleton_append] at hk
    have ht := tail_K hk
    refine ⟨ts.tail, ht, ?_⟩
    rw [compF, isT_isK ht, if_neg (by rw [hks]; exact Bool.false_ne_true), text_hdK hk]; rfl
  | t :: l, hl, hv =>
    rw [kT, List.cons_append, List.cons_append] at hk
    have ht := tail_K hk
    have ht2 := tail_K ht
    rw [List.append_assoc, List.append_assoc, List.singleton_append] at ht2
    obtain ⟨r, hr, he⟩ := args_reads tf V H l t 5 [] ts.tail.tail ks (by simp at hl ⊢; omega) (by simp at hl; omega) (hv t (by simp)) (fun u hu => hv u (by simp [hu])) ht2
    refine ⟨r, hr, ?_⟩
    rw [compF, isT_isK ht, if_pos (by rfl), he, text_hdK hk]; rfl
theorem term_reads : ∀ (d : Nat) (t : Tm), validT true d t = true → Reads (termF d) (kT t) t := by
  intro d
  induction d with
  | zero => intro t h; rw [validT] at h; cases h
  | succ d ih =>
    intro t h ts ks hks hk
    have hkd := valid_kind h
    obtain ⟨nm, l⟩ := t
    have hh : (hd ts).kind = kindF nm ∧ (hd ts).text = nm := by
      obtain ⟨k2, e⟩ := kT_head (.mk nm l)
      rw [e] at hk
      exact ⟨kind_hdK hk, text_hdK hk⟩
    have hb : begT ts = true := by
      unfold begT
      rw [hh.1]
      simp only [Tm.name] at hkd
      rcases hkd with h | h | h <;> rw [h] <;> rfl
    rw [termF, if_pos hb]
    match l, h, hk with
    | [], h, hk =>
      cases h1 : (hd ts).kind == 1 with
      | true =>
        rw [if_pos rfl]
        exact comp_reads (termF d) (fun t => validT true d t = true) ih nm [] (by simp) (by simp) ts ks hks hk
      | false =>
        rw [if_neg Bool.false_ne_true, hh.2]
        rw [kT, List.singleton_append] at hk
        exact ⟨ts.tail, tail_K hk, rfl⟩
    | t :: l, h, hk =>
      obtain ⟨hn, hl, ht, hr⟩ := valid_node h
      rw [if_pos (by rw [hh.1, name_kind hn]; rfl)]
      exact comp_reads (termF d) (fun t => validT true d t = true) ih nm (t :: l) (by simp; omega) (by intro u hu; rcases List.mem_cons.1 hu with rfl | hu; exact ht; exact hr u hu) ts ks hks hk
theorem atom_reads {t : Tm} (h : atomV t = true) : Reads atomF (kT t) t := by
  intro ts ks hks hk
  unfold atomV at h
  rw [Bool.and_eq_true] at h
  obtain ⟨h, hn⟩ := h
  obtain ⟨nm, l⟩ := t
  simp only [Tm.name] at hn
  have hh : (hd ts).kind = kindF nm := by
    obtain ⟨k2, e⟩ := kT_head (.mk nm l)
    rw [e] at hk
    exact kind_hdK hk
  rw [atomF, if_pos (by rw [hh, name_kind hn]; rfl)]
  match l, h, hk with
  | [], h, hk => exact comp_reads (termF 3) (fun t => validT true 3 t = true) (term_reads 3) nm [] (by simp) (by simp) ts ks hks hk
  | t :: l, h, hk =>
    obtain ⟨hn, hl, ht, hr⟩ := valid_node h
    exact comp_reads (termF 3) (fun t => validT true 3 t = true) (term_reads 3) nm (t :: l) (by simp; omega) (by intro u hu; rcases List.mem_cons.1 hu with rfl | hu; exact ht; exact hr u hu) ts ks hks hk

def kNot : Key := (5, [110, 111, 116])
def kLi (l : Li) : List Key := (if l.neg then [kNot] else []) ++ kT l.atom
theorem atom_key {t : Tm} (h : atomV t = true) : ∃ ks, kT t = (1, t.name) :: ks := by
  unfold atomV at h
  rw [Bool.and_eq_true] at h
  obtain ⟨ks, e⟩ := kT_head t
  exact ⟨ks, by rw [e, name_kind h.2]⟩
theorem lit_reads {l : Li} (h : atomV l.atom = true) (o : Nat) (ho : o < 8) : Reads (litF o) (kLi l) l := by
  intro ts ks hks hk
  obtain ⟨ng, at_⟩ := l
  simp only at h
  have ho8 : (o == 8) = false := beq_eq_false_iff_ne.2 (by omega)
  unfold kLi at hk
  simp only at hk
  cases ng with
  | true =>
    rw [if_pos rfl, List.append_assoc, List.singleton_append] at hk
    obtain ⟨r, hr, he⟩ := atom_reads h ts.tail ks hks (tail_K hk)
    refine ⟨r, hr, ?_⟩
    have hi : isT ts [110, 111, 116] = true := by rw [isT_isK hk]; rfl
    rw [litF_mk (t := at_) (r := r) (by rw [ho8]; rfl) (by rw [hi, if_pos rfl]; exact he), hi]
  | false =>
    rw [if_neg Bool.false_ne_true, List.nil_append] at hk
    obtain ⟨r, hr, he⟩ := atom_reads h ts ks hks hk
    refine ⟨r, hr, ?_⟩
    have hi : isT ts [110, 111, 116] = false := by
      obtain ⟨k2, e⟩ := atom_key h
      rw [isT_isK hk, e]; rfl
    rw [litF_mk (t := at_) (r := r) (by rw [ho8]; rfl) (by rw [hi, if_neg Bool.false_ne_true]; exact he), hi]
/-- the tokens of the later literals of a body -/
def kBody : List Li → List Key
  | [] => []
  | l :: b => (5, [97, 110, 100]) :: (kLi l ++ kBody b)
theorem body_reads : ∀ (b : List Li) (l : Li) (n : Nat) (acc : List Li) (ts : List Tok) (ks : List Key), acc.length + b.length ≤ 7 → b.length < n → atomV l.atom = true → (∀ x ∈ b, atomV x.atom = true) → isK ks [40] = false → isK ks [97, 110, 100] = false →
    ts.map tkey = kLi l ++ (kBody b ++ ks) → ∃ r, r.map tkey = ks ∧ bodyF n acc ts = .ok (acc ++ l :: b) r := by
  intro b
  induction b with
  | nil =>
    intro l n acc ts ks ha hn hl _ h40 hand hk
    obtain ⟨n, rfl⟩ : ∃ m, n = m + 1 := ⟨n - 1, by simp at hn; omega⟩
    rw [kBody, List.nil_append] at hk
    obtain ⟨r, hr, he⟩ := lit_reads hl acc.length (by simp at ha; omega) ts ks h40 hk
    refine ⟨r, hr, ?_⟩
    rw [bodyF, he]
    simp only
    rw [isT_isK hr, if_neg (by rw [hand]; exact Bool.false_ne_true)]
  | cons l2 b ih =>
    intro l n acc ts ks ha hn hl hb h40 hand hk
    simp only [List.length_cons] at ha hn
    obtain ⟨n, rfl⟩ : ∃ m, n = m + 1 := ⟨n - 1, by omega⟩
    rw [kBody, List.cons_append] at hk
    obtain ⟨r, hr, he⟩ := lit_reads hl acc.length (by omega) ts _ (by rfl) hk
    rw [bodyF, he]
    simp only
    rw [isT_isK hr, if_pos (by rfl)]
    have hr2 := tail_K hr
    rw [List.append_assoc] at hr2
    obtain ⟨r2, h1, h2⟩ := ih l2 n (acc ++ [l]) r.tail ks (by simp; omega) (by omega) (hb l2 (by simp)) (fun x hx => hb x (by simp [hx])) h40 hand hr2
    exact ⟨r2, h1, by rw [h2]; simp⟩
/-- the tokens of a rule -/
def kBo : List Li → List Key
  | [] => []
  | l :: b => (5, [105, 102]) :: (kLi l ++ kBody b)
def kRu (r : Ru) : List Key := kT r.head ++ (kBo r.body ++ [(4, [46])])
theorem rule_reads {x : Ru} (h : ruleV x) (ts : List Tok) (ks : List Key) (hk : ts.map tkey = kRu x ++ ks) : ∃ r, r.map tkey = ks ∧ ruleF ts = .ok x r := by
  obtain ⟨hh, h8, hb⟩ := h
  obtain ⟨hd_, bd⟩ := x
  simp only at hh h8 hb
  unfold kRu at hk
  simp only at hk
  rw [List.append_assoc, List.append_assoc] at hk
  match bd, h8, hb, hk with
  | [], _, _, hk =>
    rw [kBo, List.nil_append] at hk
    obtain ⟨r, hr, he⟩ := atom_reads hh ts _ (by rfl) hk
    refine ⟨r.tail, tail_K hr, ?_⟩
    rw [ruleF, he]
    simp only
    rw [isT_isK hr, if_neg (by rw [show isK ([(4, [46])] ++ ks) [105, 102] = false from rfl]; exact Bool.false_ne_true)]
    simp only
    rw [isT_isK hr, if_pos (by rfl)]
  | l :: b, h8, hb, hk =>
    rw [kBo, List.cons_append] at hk
    obtain ⟨r, hr, he⟩ := atom_reads hh ts _ (by rfl) hk
    have hr2 := tail_K hr
    rw [List.append_assoc] at hr2
    simp only [List.length_cons] at h8
    obtain ⟨r2, h1, h2⟩ := body_reads b l 9 [] r.tail _ (by simp; omega) (by omega) (hb l (by simp)) (fun x hx => hb x (by simp [hx])) (by rfl) (by rfl) hr2
    refine ⟨r2.tail, tail_K h1, ?_⟩
    rw [ruleF, he]
    simp only
    rw [isT_isK hr, if_pos (by rfl), h2]
    simp only
    rw [isT_isK h1, if_pos (by rfl), List.nil_append]
def kRs : List Ru → List Key
  | [] => []
  | r :: l => kRu r ++ kRs l
theorem kRu_head {x : Ru} (h : ruleV x) : ∃ ks, kRu x = (1, x.head.name) :: ks := by
  obtain ⟨ks, e⟩ := atom_key h.1
  exact ⟨ks ++ (kBo x.body ++ [(4, [46])]), by unfold kRu; rw [e]; rfl⟩
theorem rules_reads : ∀ (l : List Ru) (n : Nat) (acc : List Ru) (ts : List Tok), acc.length + l.length ≤ 128 → l.length < n → (∀ r ∈ l, ruleV r) → ts.map tkey = kRs l ++ [(0, [])] → ∃ r, r.map tkey = [(0, [])] ∧ rulesF n acc ts = .ok (acc ++ l) r := by
  intro l
  induction l with
  | nil =>
    intro n acc ts _ hn _ hk
    obtain ⟨n, rfl⟩ : ∃ m, n = m + 1 := ⟨n - 1, by simp at hn; omega⟩
    rw [kRs, List.nil_append] at hk
    refine ⟨ts, hk, ?_⟩
    rw [rulesF, if_pos (by rw [kind_hdK hk]; rfl), List.append_nil]
  | cons x l ih =>
    intro n acc ts ha hn hv hk
    simp only [List.length_cons] at ha hn
    obtain ⟨n, rfl⟩ : ∃ m, n = m + 1 := ⟨n - 1, by omega⟩
    rw [kRs, List.append_assoc] at hk
    have hx := hv x (by simp)
    obtain ⟨r, hr, he⟩ := rule_reads hx ts _ hk
    have hk1 : (hd ts).kind = 1 := by
      obtain ⟨k2, e⟩ := kRu_head hx
      rw [e] at hk
      exact kind_hdK hk
    rw [rulesF, if_neg (by rw [hk1]; decide), if_neg (by rw [beq_eq_false_iff_ne.2 (show acc.length ≠ 128 by omega)]; exact Bool.false_ne_true), he]
    simp only
    obtain ⟨r2, h1, h2⟩ := ih n (acc ++ [x]) r (by simp; omega) (by omega) (fun y hy => hv y (by simp [hy])) hr
    exact ⟨r2, h1, by rw [h2]; simp⟩

/-- the tokens of a text, without their places -/
def LexK (l : List UInt8) (ks : List Key) : Prop := ∀ f off, l.length < f → ∃ ts, lexGo f off l = .ok ts ∧ ts.map tkey = ks
theorem LexK.nil : LexK [] [(0, [])] := by
  intro f off hf
  obtain ⟨f, rfl⟩ : ∃ m, f = m + 1 := ⟨f - 1, by simp at hf; omega⟩
  exact ⟨_, lexGo_nil f off, rfl⟩
theorem LexK.blank {l : List UInt8} {ks : List Key} (h : LexK l ks) (c : UInt8) (hc : blankB (bInt c) = true) : LexK (c :: l) ks := by
  intro f off hf
  simp only [List.length_cons] at hf
  obtain ⟨f, rfl⟩ : ∃ m, f = m + 1 := ⟨f - 1, by omega⟩
  rw [lexGo_blank _ _ _ _ hc]
  exact h f (off + 1) (by omega)
theorem LexK.sym {l : List UInt8} {ks : List Key} (h : LexK l ks) (c : UInt8) (hc : symB (bInt c) = true) : LexK (c :: l) ((4, [c]) :: ks) := by
  intro f off hf
  simp only [List.length_cons] at hf
  obtain ⟨f, rfl⟩ : ∃ m, f = m + 1 := ⟨f - 1, by omega⟩
  have hb : blankB (bInt c) = false ∧ (bInt c == 35) = false := by
    have h' : bInt c = 40 ∨ bInt c = 41 ∨ bInt c = 44 ∨ bInt c = 46 := by
      unfold symB at hc
      simp only [Bool.or_eq_true, beq_iff_eq] at hc
      omega
    rcases h' with h | h | h | h <;> rw [h] <;> exact ⟨rfl, rfl⟩
  obtain ⟨ts, h1, h2⟩ := h f (off + 1) (by omega)
  refine ⟨_, by rw [lexGo_sym _ _ _ _ hb.1 hb.2 (sym_not_run _ hc) hc, h1]; rfl, by simp [h2, tkey]⟩
/-- what follows a word -/
def stopB (l : List UInt8) : Bool := match l with
  | [] => true
  | c :: _ => !runB (bInt c)
theorem tw_run {p : UInt8 → Bool} : ∀ (w r : List UInt8), w.all p = true → (match r with | [] => true | c :: _ => !p c) = true → (w ++ r).takeWhile p = w ∧ (w ++ r).dropWhile p = r
  | [], [], _, _ => ⟨rfl, rfl⟩
  | [], c :: r, _, h => by
    simp only [Bool.not_eq_true'] at h
    rw [List.nil_append, List.takeWhile_cons_of_neg (by simp [h]), List.dropWhile_cons_of_neg (by simp [h])]
    exact ⟨rfl, rfl⟩
  | c :: w, r, h, hr => by
    rw [List.all_cons, Bool.and_eq_true] at h
    obtain ⟨h1, h2⟩ := tw_run w r h.2 hr
    rw [List.cons_append, List.takeWhile_cons_of_pos h.1, List.dropWhile_cons_of_pos h.1, h1, h2]
    exact ⟨rfl, rfl⟩
theorem run_other {n : Int} (h : runB n = true) : blankB n = false ∧ (n == 35) = false := by
  unfold runB lowerB upperB digitB at h
  simp only [Bool.or_eq_true, Bool.and_eq_true, decide_eq_true_eq, beq_iff_eq] at h
  constructor
  · unfold blankB
    simp only [Bool.or_eq_false_iff, beq_eq_false_iff_ne]
    omega
  · rw [beq_eq_false_iff_ne]; omega
theorem LexK.word {l : List UInt8} {ks : List Key} (h : LexK l ks) (w : List UInt8) (hw : w.all (fun c => runB (bInt c)) = true) (hk : kindF w ≠ 0) (hs : stopB l = true) : LexK (w ++ l) ((kindF w, w) :: ks) := by
  intro f off hf
  rw [List.length_append] at hf
  obtain ⟨f, rfl⟩ : ∃ m, f = m + 1 := ⟨f - 1, by omega⟩
  match w, hw, hk, hf with
  | [], _, hk, _ => exact absurd rfl hk
  | c :: w, hw, hk, hf =>
    obtain ⟨h1, h2⟩ := tw_run (p := fun c => runB (bInt c)) (c :: w) l hw hs
    have hc : runB (bInt c) = true := by rw [List.all_cons, Bool.and_eq_true] at hw; exact hw.1
    obtain ⟨hb, hh⟩ := run_other hc
    rw [List.cons_append] at h1 h2
    simp only [List.length_cons] at hf
    obtain ⟨ts, h3, h4⟩ := h f (off + (c :: w).length) (by omega)
    refine ⟨_, by rw [List.cons_append, lexGo_run _ _ _ _ hb hh hc (by rw [h1]; simpa using hk), h1, h2, h3]; rfl, by simp [h4, tkey]⟩

theorem run_name {l : List UInt8} (h : nameF l = true) : l.all (fun c => runB (bInt c)) = true := by
  unfold nameF at h
  simp only [Bool.and_eq_true] at h
  rw [List.all_eq_true]
  intro c hc
  have := List.all_eq_true.1 h.1.2 c hc
  unfold nameCh at this
  unfold runB
  revert this
  cases lowerB (bInt c) <;> cases digitB (bInt c) <;> cases upperB (bInt c) <;> simp
theorem run_num {l : List UInt8} (h : numF l = true) : l.all (fun c => runB (bInt c)) = true := by
  unfold numF at h
  simp only [Bool.and_eq_true] at h
  rw [List.all_eq_true]
  intro c hc
  have := List.all_eq_true.1 h.2 c hc
  unfold runB
  rw [this]; simp
theorem run_var {l : List UInt8} (h : varF l = true) : l.all (fun c => runB (bInt c)) = true := by
  unfold varF at h
  simp only [Bool.and_eq_true] at h
  rw [List.all_eq_true]
  intro c hc
  have := List.all_eq_true.1 h.2 c hc
  unfold varCh at this
  unfold runB
  revert this
  cases lowerB (bInt c) <;> cases digitB (bInt c) <;> cases upperB (bInt c) <;> simp
theorem valid_run {d : Nat} {t : Tm} (h : validT true d t = true) : t.name.all (fun c => runB (bInt c)) = true := by
  cases d with
  | zero => rw [validT] at h; cases h
  | succ d =>
    rw [validT] at h
    split at h
    · simp only [Bool.or_eq_true, Bool.and_eq_true] at h
      rcases h with (h | h) | ⟨_, h⟩
      · exact run_name h
      · exact run_num h
      · exact run_var h
    · simp only [Bool.and_eq_true] at h
      exact run_name h.1.1
theorem valid_k0 {d : Nat} {t : Tm} (h : validT true d t = true) : kindF t.name ≠ 0 := by
  rcases valid_kind h with h | h | h <;> rw [h] <;> decide
theorem lexk_rest (V : Tm → Prop) (H : ∀ t, V t → ∀ (r : List UInt8) (ks : List Key), stopB r = true → LexK r ks → LexK (textT t ++ r) (kT t ++ ks)) :
    ∀ (l : List Tm) (r : List UInt8) (ks : List Key), (∀ u ∈ l, V u) → stopB r = true → LexK r ks → stopB (textR l ++ r) = true ∧ LexK (textR l ++ r) (kR l ++ ks) := by
  intro l
  induction l with
  | nil => intro r ks _ hs h; rw [textR, kR]; exact ⟨hs, h⟩
  | cons u l ih =>
    intro r ks hv hs h
    obtain ⟨h1, h2⟩ := ih r ks (fun x hx => hv x (by simp [hx])) hs h
    have h3 := H u (hv u (by simp)) _ _ h1 h2
    rw [textR, kR, List.cons_append, List.cons_append, List.append_assoc, List.append_assoc]
    exact ⟨rfl, h3.sym 44 (by rfl)⟩
theorem lexk_term : ∀ (d : Nat) (t : Tm), validT true d t = true → ∀ (r : List UInt8) (ks : List Key), stopB r = true → LexK r ks → LexK (textT t ++ r) (kT t ++ ks) := by
  intro d
  induction d with
  | zero => intro t h; rw [validT] at h; cases h
  | succ d ih =>
    intro t h r ks hs hl
    have hr := valid_run h
    have hk := valid_k0 h
    obtain ⟨nm, l⟩ := t
    simp only [Tm.name] at hr hk
    match l, h with
    | [], h =>
      rw [textT, kT, List.singleton_append]
      exact hl.word nm hr hk hs
    | t :: l, h =>
      obtain ⟨hn, h3, ht, hall⟩ := valid_node h
      obtain ⟨h1, h2⟩ := lexk_rest (fun t => validT true d t = true) ih l (41 :: r) _ hall (by rfl) (hl.sym 41 (by rfl))
      have h4 := (ih t ht _ _ h1 h2).sym 40 (by rfl)
      have h5 := h4.word nm hr hk (by rfl)
      rw [textT, kT]
      simp only [List.append_assoc, List.cons_append, List.nil_append] at h5 ⊢
      exact h5
theorem lexk_lit {l : Li} (h : atomV l.atom = true) (r : List UInt8) (ks : List Key) (hs : stopB r = true) (hl : LexK r ks) : LexK (litT l ++ r) (kLi l ++ ks) := by
  unfold atomV at h
  rw [Bool.and_eq_true] at h
  have h1 := lexk_term 4 _ h.1 r ks hs hl
  unfold litT kLi
  cases l.neg with
  | false => exact h1
  | true =>
    rw [if_pos rfl, if_pos rfl, List.append_assoc, List.append_assoc]
    exact (h1.blank 32 (by rfl)).word [110, 111, 116] (by decide) (by decide) (by rfl)
theorem lexk_tail : ∀ (b : List Li) (r : List UInt8) (ks : List Key), (∀ x ∈ b, atomV x.atom = true) → stopB r = true → LexK r ks → stopB (Lib.joinTail [32, 97, 110, 100, 32] (ltxs b) ++ r) = true ∧ LexK (Lib.joinTail [32, 97, 110, 100, 32] (ltxs b) ++ r) (kBody b ++ ks) := by
  intro b
  induction b with
  | nil => intro r ks _ hs h; exact ⟨hs, h⟩
  | cons l b ih =>
    intro r ks hv hs h
    obtain ⟨h1, h2⟩ := ih r ks (fun x hx => hv x (by simp [hx])) hs h
    have h3 := lexk_lit (hv l (by simp)) _ _ h1 h2
    have h4 := ((h3.blank 32 (by rfl)).word [97, 110, 100] (by decide) (by decide) (by rfl)).blank 32 (by rfl)
    have e : Lib.joinTail [32, 97, 110, 100, 32] (ltxs (l :: b)) = [32, 97, 110, 100, 32] ++ litT l ++ Lib.joinTail [32, 97, 110, 100, 32] (ltxs b) := by simp [ltxs, Lib.joinTail]
    rw [e, kBody]
    simp only [List.append_assoc, List.cons_append, List.nil_append] at h4 ⊢
    exact ⟨rfl, h4⟩
theorem lexk_rule {x : Ru} (h : ruleV x) (r : List UInt8) (ks : List Key) (hl : LexK r ks) : LexK (ruleT x ++ r) (kRu x ++ ks) := by
  obtain ⟨hh, h8, hb⟩ := h
  obtain ⟨hd_, bd⟩ := x
  simp only at hh hb
  have h46 := hl.sym 46 (by rfl)
  unfold atomV at hh
  rw [Bool.and_eq_true] at hh
  unfold ruleT kRu
  simp only
  match bd, hb with
  | [], _ =>
    have h1 := lexk_term 4 _ hh.1 (46 :: r) _ (by rfl) h46
    rw [kBo, List.nil_append]
    unfold bodyS
    simp only [List.isEmpty_nil, if_true, List.append_assoc, List.cons_append, List.nil_append] at h1 ⊢
    exact h1
  | l :: b, hb =>
    obtain ⟨h1, h2⟩ := lexk_tail b (46 :: r) _ (fun x hx => hb x (by simp [hx])) (by rfl) h46
    have h3 := lexk_lit (hb l (by simp)) _ _ h1 h2
    have h4 := ((h3.blank 32 (by rfl)).word [105, 102] (by decide) (by decide) (by rfl)).blank 32 (by rfl)
    have h5 := lexk_term 4 _ hh.1 _ _ (by rfl) h4
    have e := bodyT_cons l b
    unfold bodyS
    rw [kBo, e]
    simp only [List.isEmpty_cons, Bool.false_eq_true, if_false, List.append_assoc, List.cons_append, List.nil_append] at h5 ⊢
    exact h5
theorem lexk_rules : ∀ (l : List Ru), (∀ r ∈ l, ruleV r) → LexK (rulesT l) (kRs l ++ [(0, [])]) := by
  intro l
  induction l with
  | nil => intro _; exact LexK.nil
  | cons x l ih =>
    intro hv
    have h1 := (ih (fun y hy => hv y (by simp [hy]))).blank 10 (by rfl)
    have h2 := lexk_rule (hv x (by simp)) _ _ h1
    rw [rulesT, kRs, List.append_assoc]
    exact h2
theorem lexF_of {l : List UInt8} {ks : List Key} (h : LexK l ks) (hl : l.length ≤ 16384) : ∃ ts, lexF l = .ok ts ∧ ts.map tkey = ks := by
  unfold lexF
  rw [if_neg (by omega)]
  exact h _ 0 (by omega)

/-- a description is parsed from its text -/
theorem parse_back {l : List Ru} (h : ∀ r ∈ l, ruleV r) (h128 : l.length ≤ 128) (hl : (rulesT l).length ≤ 16384) : parseF (rulesT l) = .ok l := by
  obtain ⟨ts, h1, h2⟩ := lexF_of (lexk_rules l h) hl
  obtain ⟨r, h3, h4⟩ := rules_reads l 129 [] ts (by simp; omega) (by omega) h h2
  unfold parseF readF
  rw [h1]
  simp only
  rw [h4, endF, if_pos (by rw [kind_hdK h3]; rfl), List.nil_append]
/-- a rule is read from its text -/
theorem rule_back {x : Ru} (h : ruleV x) (hl : (ruleT x).length ≤ 16384) : ruleRF (ruleT x) = .ok x := by
  have hk := lexk_rule h [] _ LexK.nil
  rw [List.append_nil] at hk
  obtain ⟨ts, h1, h2⟩ := lexF_of hk hl
  obtain ⟨r, h3, h4⟩ := rule_reads h ts _ h2
  unfold ruleRF readF
  rw [h1]
  simp only
  rw [h4, endF, if_pos (by rw [kind_hdK h3]; rfl)]
theorem ruleOk_iff (r : Ru) : ruleOk r = true ↔ ruleV r := by
  unfold ruleOk ruleV
  simp only [Bool.and_eq_true, decide_eq_true_eq, List.all_eq_true]
  constructor
  · rintro ⟨⟨h1, h2⟩, h3⟩; exact ⟨h2, h1, h3⟩
  · rintro ⟨h2, h1, h3⟩; exact ⟨⟨h1, h2⟩, h3⟩
/-- what is parsed is known -/
theorem parsed_ok {s : List UInt8} {l : List Ru} (h : parseF s = .ok l) : l.length ≤ 128 ∧ ∀ r ∈ l, RuB r := by
  obtain ⟨h1, h2⟩ := parse_valid h
  exact ⟨h1, fun r hr => (ok_ruw ((ruleOk_iff r).2 (h2 r hr))).rub⟩
end Go.Proofs.YtmplpbdldcokjaaGreatDoor
