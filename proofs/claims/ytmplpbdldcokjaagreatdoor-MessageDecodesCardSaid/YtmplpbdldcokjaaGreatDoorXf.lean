/- Merged texts: Plain laws of the lexer: the fuel does not matter, offsets shift, texts on separate lines. The parser's plain functions take tokens from the front and look at one beyond; offsets do not matter. What the parser gives is valid: plain laws. -/
import Derived.Test.YtmplpbdldcokjaaGreatDoorXa
namespace Go.Proofs.YtmplpbdldcokjaaGreatDoor
/- Plain laws of the lexer: the fuel does not matter, offsets shift, texts on separate lines. -/
section

theorem tw_le {α : Type} (p : α → Bool) (l : List α) : (l.takeWhile p).length ≤ l.length := (List.takeWhile_sublist p).length_le
theorem dw_le {α : Type} (p : α → Bool) (l : List α) : (l.dropWhile p).length ≤ l.length := (List.dropWhile_sublist p).length_le
theorem dw_lt {α : Type} (p : α → Bool) (c : α) (r : List α) (h : p c = true) : ((c :: r).dropWhile p).length ≤ r.length := by
  rw [List.dropWhile_cons_of_pos h]; exact dw_le p r
theorem tw_dw {α : Type} (p : α → Bool) (l : List α) : (l.takeWhile p).length + (l.dropWhile p).length = l.length := by
  rw [← List.length_append, List.takeWhile_append_dropWhile]
theorem tw_app {α : Type} (p : α → Bool) (x : α) (b : List α) (hx : p x = false) : ∀ a : List α, (a ++ x :: b).takeWhile p = a.takeWhile p
  | [] => by rw [List.nil_append, List.takeWhile_cons_of_neg (by simp [hx])]; rfl
  | c :: r => by
    cases h : p c with
    | true => rw [List.cons_append, List.takeWhile_cons_of_pos h, List.takeWhile_cons_of_pos h, tw_app p x b hx r]
    | false => rw [List.cons_append, List.takeWhile_cons_of_neg (by simp [h]), List.takeWhile_cons_of_neg (by simp [h])]
theorem dw_app {α : Type} (p : α → Bool) (x : α) (b : List α) (hx : p x = false) : ∀ a : List α, (a ++ x :: b).dropWhile p = a.dropWhile p ++ x :: b
  | [] => by rw [List.nil_append, List.dropWhile_cons_of_neg (by simp [hx])]; rfl
  | c :: r => by
    cases h : p c with
    | true => rw [List.cons_append, List.dropWhile_cons_of_pos h, List.dropWhile_cons_of_pos h, dw_app p x b hx r]
    | false => rw [List.cons_append, List.dropWhile_cons_of_neg (by simp [h]), List.dropWhile_cons_of_neg (by simp [h])]; rfl
theorem hash_noLf {n : Int} (h : (n == 35) = true) : noLf n = true := by rw [beq_iff_eq] at h; subst h; rfl

/-- the cases of one step -/
inductive Step1 (c : UInt8) : Prop where
  | blank (h : blankB (bInt c) = true)
  | hash (h : blankB (bInt c) = false) (h2 : (bInt c == 35) = true)
  | run (h : blankB (bInt c) = false) (h2 : (bInt c == 35) = false) (h3 : runB (bInt c) = true)
  | sym (h : blankB (bInt c) = false) (h2 : (bInt c == 35) = false) (h3 : runB (bInt c) = false) (h4 : symB (bInt c) = true)
  | bad (h : blankB (bInt c) = false) (h2 : (bInt c == 35) = false) (h3 : runB (bInt c) = false) (h4 : symB (bInt c) = false)
theorem step1 (c : UInt8) : Step1 c := by
  cases h : blankB (bInt c) with
  | true => exact .blank h
  | false =>
    cases h2 : (bInt c == 35) with
    | true => exact .hash h h2
    | false =>
      cases h3 : runB (bInt c) with
      | true => exact .run h h2 h3
      | false =>
        cases h4 : symB (bInt c) with
        | true => exact .sym h h2 h3 h4
        | false => exact .bad h h2 h3 h4

theorem lexGo_fuel : ∀ (f g off : Nat) (l : List UInt8), l.length < f → l.length < g → lexGo f off l = lexGo g off l := by
  intro f
  induction f with
  | zero => intro g off l h; omega
  | succ f ih =>
    intro g off l hf hg
    cases g with
    | zero => omega
    | succ g =>
      cases l with
      | nil => rw [lexGo_nil, lexGo_nil]
      | cons c r =>
        simp only [List.length_cons] at hf hg
        cases step1 c with
        | blank h => rw [lexGo_blank _ _ _ _ h, lexGo_blank _ _ _ _ h]; exact ih _ _ _ (by omega) (by omega)
        | hash h h2 =>
          rw [lexGo_hash _ _ _ _ h h2, lexGo_hash _ _ _ _ h h2]
          have := dw_lt (fun c => noLf (bInt c)) c r (hash_noLf h2)
          exact ih _ _ _ (by omega) (by omega)
        | run h h2 h3 =>
          cases h4 : (kindF ((c :: r).takeWhile (fun c => runB (bInt c))) == 0) with
          | true => rw [lexGo_badrun _ _ _ _ h h2 h3 h4, lexGo_badrun _ _ _ _ h h2 h3 h4]
          | false =>
            rw [lexGo_run _ _ _ _ h h2 h3 h4, lexGo_run _ _ _ _ h h2 h3 h4]
            have := dw_lt (fun c => runB (bInt c)) c r h3
            rw [ih g _ _ (by omega) (by omega)]
        | sym h h2 h3 h4 => rw [lexGo_sym _ _ _ _ h h2 h3 h4, lexGo_sym _ _ _ _ h h2 h3 h4, ih g _ _ (by omega) (by omega)]
        | bad h h2 h3 h4 => rw [lexGo_bad _ _ _ _ h h2 h3 h4, lexGo_bad _ _ _ _ h h2 h3 h4]

def shiftT (k : Nat) (t : Tok) : Tok := ⟨t.kind, t.text, t.pos + k⟩
def LexR.shift (k : Nat) : LexR → LexR
  | .ok l => .ok (l.map (shiftT k))
  | .err p e => .err (p + k) e
theorem pre_shift (k : Nat) (a : List Tok) (x : LexR) : (x.pre a).shift k = (x.shift k).pre (a.map (shiftT k)) := by
  cases x with
  | ok l => simp [LexR.pre, LexR.shift]
  | err p e => simp [LexR.pre, LexR.shift]
theorem lexGo_shift (k : Nat) : ∀ (f off : Nat) (l : List UInt8), lexGo f (off + k) l = (lexGo f off l).shift k := by
  intro f
  induction f with
  | zero => intro off l; rfl
  | succ f ih =>
    intro off l
    have comm : ∀ n : Nat, off + k + n = off + n + k := fun n => by omega
    cases l with
    | nil => rw [lexGo_nil, lexGo_nil]; rfl
    | cons c r =>
      cases step1 c with
      | blank h => rw [lexGo_blank _ _ _ _ h, lexGo_blank _ _ _ _ h, comm]; exact ih _ _
      | hash h h2 => rw [lexGo_hash _ _ _ _ h h2, lexGo_hash _ _ _ _ h h2, comm]; exact ih _ _
      | run h h2 h3 =>
        cases h4 : (kindF ((c :: r).takeWhile (fun c => runB (bInt c))) == 0) with
        | true => rw [lexGo_badrun _ _ _ _ h h2 h3 h4, lexGo_badrun _ _ _ _ h h2 h3 h4]; rfl
        | false => rw [lexGo_run _ _ _ _ h h2 h3 h4, lexGo_run _ _ _ _ h h2 h3 h4, comm, ih, pre_shift]; rfl
      | sym h h2 h3 h4 => rw [lexGo_sym _ _ _ _ h h2 h3 h4, lexGo_sym _ _ _ _ h h2 h3 h4, comm, ih, pre_shift]; rfl
      | bad h h2 h3 h4 => rw [lexGo_bad _ _ _ _ h h2 h3 h4, lexGo_bad _ _ _ _ h h2 h3 h4]; rfl

theorem lexGo_app : ∀ (f off : Nat) (a : List UInt8) (ts : List Tok), lexGo f off a = .ok ts → a.length < f →
    ∃ l0, ts = l0 ++ [⟨0, [], off + a.length⟩] ∧ (∀ t ∈ l0, t.kind ≠ 0) ∧ ∀ (b : List UInt8) (g : Nat), a.length + 1 + b.length < g → lexGo g off (a ++ 10 :: b) = (lexGo g (off + a.length + 1) b).pre l0 := by
  intro f
  induction f with
  | zero => intro off a ts _ h; omega
  | succ f ih =>
    intro off a ts h hf
    cases a with
    | nil =>
      rw [lexGo_nil] at h
      cases h
      refine ⟨[], rfl, by simp, fun b g hg => ?_⟩
      cases g with
      | zero => omega
      | succ g =>
        simp only [List.length_nil] at hg
        rw [List.nil_append, lexGo_blank _ _ _ _ (by rfl), pre_nil]
        exact lexGo_fuel _ _ _ _ (by omega) (by omega)
    | cons c r =>
      simp only [List.length_cons] at hf
      cases step1 c with
      | blank hb =>
        rw [lexGo_blank _ _ _ _ hb] at h
        obtain ⟨l0, h1, h2, h3⟩ := ih _ _ _ h (by omega)
        refine ⟨l0, by rw [h1]; simp; omega, h2, fun b g hg => ?_⟩
        cases g with
        | zero => omega
        | succ g =>
          simp only [List.length_cons] at hg
          rw [List.cons_append, lexGo_blank _ _ _ _ hb, h3 b g (by omega), lexGo_fuel g (g + 1) _ b (by omega) (by omega)]
          congr 2
          simp; omega
      | hash hb hh =>
        rw [lexGo_hash _ _ _ _ hb hh] at h
        have hd := dw_lt (fun c => noLf (bInt c)) c r (hash_noLf hh)
        have htd := tw_dw (fun c => noLf (bInt c)) (c :: r)
        obtain ⟨l0, h1, h2, h3⟩ := ih _ _ _ h (by omega)
        simp only [List.length_cons] at htd
        refine ⟨l0, by rw [h1]; congr 3; simp; omega, h2, fun b g hg => ?_⟩
        cases g with
        | zero => omega
        | succ g =>
          simp only [List.length_cons] at hg
          rw [List.cons_append, lexGo_hash _ _ _ _ hb hh, ← List.cons_append, tw_app _ _ _ (by rfl), dw_app _ _ _ (by rfl), h3 b g (by omega), lexGo_fuel g (g + 1) _ b (by omega) (by omega)]
          congr 2
          simp only [List.length_cons]; omega
      | run hb hh hr =>
        cases h4 : (kindF ((c :: r).takeWhile (fun c => runB (bInt c))) == 0) with
        | true => rw [lexGo_badrun _ _ _ _ hb hh hr h4] at h; cases h
        | false =>
          rw [lexGo_run _ _ _ _ hb hh hr h4] at h
          have hd := dw_lt (fun c => runB (bInt c)) c r hr
          have htd := tw_dw (fun c => runB (bInt c)) (c :: r)
          simp only [List.length_cons] at htd
          cases hg : lexGo f (off + ((c :: r).takeWhile (fun c => runB (bInt c))).length) ((c :: r).dropWhile (fun c => runB (bInt c))) with
          | err p e => rw [hg] at h; cases h
          | ok ts' =>
            rw [hg] at h
            cases h
            obtain ⟨l0, h1, h2, h3⟩ := ih _ _ _ hg (by omega)
            refine ⟨⟨kindF ((c :: r).takeWhile (fun c => runB (bInt c))), (c :: r).takeWhile (fun c => runB (bInt c)), off⟩ :: l0, ?_, ?_, fun b g hg => ?_⟩
            · rw [h1, List.singleton_append, List.cons_append, show off + ((c :: r).takeWhile (fun c => runB (bInt c))).length + ((c :: r).dropWhile (fun c => runB (bInt c))).length = off + (c :: r).length from by simp only [List.length_cons]; omega]
            · intro t ht
              rcases List.mem_cons.1 ht with rfl | ht
              · exact beq_eq_false_iff_ne.1 h4
              · exact h2 t ht
            · cases g with
              | zero => omega
              | succ g =>
                simp only [List.length_cons] at hg
                rw [List.cons_append, lexGo_run _ _ _ _ hb hh hr (by rw [← List.cons_append, tw_app _ _ _ (by rfl)]; exact h4), ← List.cons_append, tw_app _ _ _ (by rfl), dw_app _ _ _ (by rfl), h3 b g (by omega), lexGo_fuel g (g + 1) _ b (by omega) (by omega), pre_pre]
                congr 2
                simp only [List.length_cons]; omega
      | sym hb hh hr hs =>
        rw [lexGo_sym _ _ _ _ hb hh hr hs] at h
        cases hg : lexGo f (off + 1) r with
        | err p e => rw [hg] at h; cases h
        | ok ts' =>
          rw [hg] at h
          cases h
          obtain ⟨l0, h1, h2, h3⟩ := ih _ _ _ hg (by omega)
          refine ⟨⟨4, [c], off⟩ :: l0, ?_, ?_, fun b g hg => ?_⟩
          · rw [h1, List.singleton_append, List.cons_append, show off + 1 + r.length = off + (c :: r).length from by simp only [List.length_cons]; omega]
          · intro t ht
            rcases List.mem_cons.1 ht with rfl | ht
            · exact fun e => by cases e
            · exact h2 t ht
          · cases g with
            | zero => omega
            | succ g =>
              simp only [List.length_cons] at hg
              rw [List.cons_append, lexGo_sym _ _ _ _ hb hh hr hs, h3 b g (by omega), lexGo_fuel g (g + 1) _ b (by omega) (by omega), pre_pre]
              congr 2
              simp only [List.length_cons]; omega
      | bad hb hh hr hs => rw [lexGo_bad _ _ _ _ hb hh hr hs] at h; cases h

/-- the tokens of an accepted text: all but the last have a kind, the last is the end -/
theorem lexF_ok {a : List UInt8} {ts : List Tok} (h : lexF a = .ok ts) : a.length ≤ 16384 ∧ ∃ l0, ts = l0 ++ [⟨0, [], a.length⟩] ∧ (∀ t ∈ l0, t.kind ≠ 0) ∧
    ∀ b : List UInt8, a.length + 1 + b.length ≤ 16384 → lexF (a ++ 10 :: b) = ((lexF b).shift (a.length + 1)).pre l0 := by
  unfold lexF at h
  split at h
  · cases h
  · rename_i hl
    obtain ⟨l0, h1, h2, h3⟩ := lexGo_app _ _ _ _ h (by omega)
    refine ⟨by omega, l0, by simpa using h1, h2, fun b hb => ?_⟩
    unfold lexF
    rw [if_neg (by simp; omega), if_neg (by omega), h3 b _ (by simp; omega), lexGo_fuel _ (b.length + 1) _ b (by simp; omega) (by omega), ← lexGo_shift, Nat.zero_add, Nat.zero_add]

/-- the kind of a token goes by its text -/
def goodT (t : Tok) : Prop := t.kind ≠ 0 → t.kind ≠ 4 → kindF t.text = t.kind
theorem lexGo_good : ∀ (f off : Nat) (l : List UInt8) (ts : List Tok), lexGo f off l = .ok ts → ∀ t ∈ ts, goodT t := by
  intro f
  induction f with
  | zero => intro off l ts h; cases h
  | succ f ih =>
    intro off l ts h
    cases l with
    | nil =>
      rw [lexGo_nil] at h
      cases h
      intro t ht hk
      rw [List.mem_singleton] at ht
      subst ht
      exact absurd rfl hk
    | cons c r =>
      cases step1 c with
      | blank hb => rw [lexGo_blank _ _ _ _ hb] at h; exact ih _ _ _ h
      | hash hb hh => rw [lexGo_hash _ _ _ _ hb hh] at h; exact ih _ _ _ h
      | run hb hh hr =>
        cases hk : (kindF ((c :: r).takeWhile (fun c => runB (bInt c))) == 0) with
        | true => rw [lexGo_badrun _ _ _ _ hb hh hr hk] at h; cases h
        | false =>
          rw [lexGo_run _ _ _ _ hb hh hr hk] at h
          cases hg : lexGo f (off + ((c :: r).takeWhile (fun c => runB (bInt c))).length) ((c :: r).dropWhile (fun c => runB (bInt c))) with
          | err p e => rw [hg] at h; cases h
          | ok ts' =>
            rw [hg] at h
            cases h
            intro t ht
            rcases List.mem_cons.1 ht with rfl | ht
            · intro _ _; rfl
            · exact ih _ _ _ hg t ht
      | sym hb hh hr hs =>
        rw [lexGo_sym _ _ _ _ hb hh hr hs] at h
        cases hg : lexGo f (off + 1) r with
        | err p e => rw [hg] at h; cases h
        | ok ts' =>
          rw [hg] at h
          cases h
          intro t ht
          rcases List.mem_cons.1 ht with rfl | ht
          · intro _ h4; exact absurd rfl h4
          · exact ih _ _ _ hg t ht
      | bad hb hh hr hs => rw [lexGo_bad _ _ _ _ hb hh hr hs] at h; cases h
theorem lexF_good {l : List UInt8} {ts : List Tok} (h : lexF l = .ok ts) : ∀ t ∈ ts, goodT t := by
  unfold lexF at h
  split at h
  · cases h
  · exact lexGo_good _ _ _ _ h

end
/- The parser's plain functions take tokens from the front and look at one beyond; offsets do not matter. -/
section

def tkey (t : Tok) : Int × List UInt8 := (t.kind, t.text)
/-- the first token, but for its place -/
def hkey (ts : List Tok) : Int × List UInt8 := tkey (hd ts)
theorem kind_key {a b : List Tok} (h : hkey a = hkey b) : (hd a).kind = (hd b).kind := congrArg Prod.fst h
theorem text_key {a b : List Tok} (h : hkey a = hkey b) : (hd a).text = (hd b).text := congrArg Prod.snd h
theorem isT_key {a b : List Tok} (h : hkey a = hkey b) (s : List UInt8) : isT a s = isT b s := by
  unfold isT; rw [kind_key h, text_key h]
theorem begT_key {a b : List Tok} (h : hkey a = hkey b) : begT a = begT b := by
  unfold begT; rw [kind_key h]
theorem hkey_app {p p' r r' : List Tok} (hp : p'.map tkey = p.map tkey) (hr : hkey r' = hkey r) : hkey (p' ++ r') = hkey (p ++ r) := by
  cases p with
  | nil =>
    rw [List.map_nil, List.map_eq_nil_iff] at hp
    subst hp
    exact hr
  | cons t p =>
    rw [List.map_cons] at hp
    obtain ⟨t', q, rfl, h1, h2⟩ := List.map_eq_cons_iff.1 hp
    exact h1
theorem hkey_ne {p p' r r' : List Tok} (hp : p'.map tkey = p.map tkey) (hn : p ≠ []) : hkey (p' ++ r') = hkey (p ++ r) := by
  cases p with
  | nil => exact absurd rfl hn
  | cons t p =>
    rw [List.map_cons] at hp
    obtain ⟨t', q, rfl, h1, h2⟩ := List.map_eq_cons_iff.1 hp
    exact h1
theorem ne_of_kind {ts : List Tok} (h : (hd ts).kind ≠ 0) : ∃ t r, ts = t :: r := by
  cases ts with
  | nil => exact absurd rfl h
  | cons t r => exact ⟨t, r, rfl⟩

/-- f reads v off the front of ts; what it took, and what it does with other texts that begin alike -/
def LocAt {α : Type} (f : List Tok → PR α) (ts : List Tok) : Prop :=
  ∀ v r, f ts = .ok v r → ∃ p, ts = p ++ r ∧ (∀ t ∈ p, t.kind ≠ 0) ∧ ∀ p' r', p'.map tkey = p.map tkey → hkey r' = hkey r → f (p' ++ r') = .ok v r'

theorem argsF_go {tf : List Tok → PR Tm} {n : Nat} {acc : List Tm} {ts ts' : List Tok} {t : Tm} (hc : (acc.length == 4 && begT ts) = false) (ht : tf ts = .ok t ts') :
    argsF tf (n + 1) acc ts = if isT ts' [44] then argsF tf n (acc ++ [t]) ts'.tail else if isT ts' [41] then .ok (acc ++ [t]) ts'.tail else failT ts' 1 := by
  rw [argsF, if_neg (by rw [hc]; exact Bool.false_ne_true), ht]
theorem fail_ne {α : Type} {ts r : List Tok} {e : Int} {v : α} (h : failT ts e = .ok v r) : False := by
  unfold failT at h; cases h
/-- what argsF does where it succeeds -/
theorem argsF_inv {tf : List Tok → PR Tm} {n : Nat} {acc : List Tm} {ts r : List Tok} {v : List Tm} (h : argsF tf (n + 1) acc ts = .ok v r) :
    (acc.length == 4 && begT ts) = false ∧ ∃ t ts', tf ts = .ok t ts' ∧ ((isT ts' [44] = true ∧ argsF tf n (acc ++ [t]) ts'.tail = .ok v r) ∨ (isT ts' [44] = false ∧ isT ts' [41] = true ∧ v = acc ++ [t] ∧ r = ts'.tail)) := by
  rw [argsF] at h
  cases hc : (acc.length == 4 && begT ts) with
  | true => rw [if_pos hc] at h; exact (fail_ne h).elim
  | false =>
    rw [if_neg (by rw [hc]; exact Bool.false_ne_true)] at h
    cases ht : tf ts with
    | err p e => rw [ht] at h; cases h
    | ok t ts' =>
      rw [ht] at h
      simp only at h
      refine ⟨rfl, t, ts', rfl, ?_⟩
      cases hi : isT ts' [44] with
      | true => rw [if_pos hi] at h; exact .inl ⟨rfl, h⟩
      | false =>
        rw [if_neg (by rw [hi]; exact Bool.false_ne_true)] at h
        cases hj : isT ts' [41] with
        | true => rw [if_pos hj] at h; cases h; exact .inr ⟨rfl, rfl, rfl, rfl⟩
        | false => rw [if_neg (by rw [hj]; exact Bool.false_ne_true)] at h; exact (fail_ne h).elim

theorem mem_snoc {p1 p2 : List Tok} {c : Tok} (h1 : ∀ t ∈ p1, t.kind ≠ 0) (hc : c.kind ≠ 0) (h2 : ∀ t ∈ p2, t.kind ≠ 0) : ∀ t ∈ p1 ++ c :: p2, t.kind ≠ 0 := by
  intro t ht
  rcases List.mem_append.1 ht with ht | ht
  · exact h1 t ht
  · rcases List.mem_cons.1 ht with rfl | ht
    · exact hc
    · exact h2 t ht

theorem loc_args (tf : List Tok → PR Tm) (H : ∀ ts, LocAt tf ts) : ∀ (n : Nat) (acc : List Tm) (ts : List Tok), LocAt (argsF tf n acc) ts := by
  intro n
  induction n with
  | zero => intro acc ts v r h; exact (fail_ne h).elim
  | succ n ih =>
    intro acc ts v r h
    obtain ⟨hc, t, ts', ht, h⟩ := argsF_inv h
    obtain ⟨p1, e1, k1, g1⟩ := H ts t ts' ht
    rcases h with ⟨hi, h⟩ | ⟨hi, hj, rfl, rfl⟩
    · obtain ⟨c, r1, rfl⟩ := ne_of_kind (isT_kind hi)
      obtain ⟨p2, e2, k2, g2⟩ := ih _ _ _ _ h
      rw [List.tail_cons] at e2
      refine ⟨p1 ++ c :: p2, by rw [e1, e2]; simp, mem_snoc k1 (isT_kind hi) k2, fun p' r' hp hr => ?_⟩
      rw [List.map_append, List.map_cons] at hp
      obtain ⟨q1, q2, rfl, hq1, hq2⟩ := List.map_eq_append_iff.1 hp
      obtain ⟨c', q3, rfl, hc', hq3⟩ := List.map_eq_cons_iff.1 hq2
      have hk : hkey (c' :: (q3 ++ r')) = hkey (c :: r1) := hc'
      rw [List.append_assoc, List.cons_append]
      rw [argsF_go (by rw [begT_key (hkey_app hq1 hk), ← e1]; exact hc) (g1 q1 _ hq1 hk), isT_key hk, if_pos hi, List.tail_cons]
      exact g2 q3 r' hq3 hr
    · obtain ⟨c, r1, rfl⟩ := ne_of_kind (isT_kind hj)
      refine ⟨p1 ++ [c], by rw [e1]; simp, mem_snoc k1 (isT_kind hj) (by simp), fun p' r' hp hr => ?_⟩
      rw [List.map_append, List.map_cons] at hp
      obtain ⟨q1, q2, rfl, hq1, hq2⟩ := List.map_eq_append_iff.1 hp
      obtain ⟨c', q3, rfl, hc', hq3⟩ := List.map_eq_cons_iff.1 hq2
      rw [List.map_nil, List.map_eq_nil_iff] at hq3
      subst hq3
      have hk : hkey (c' :: r') = hkey (c :: r1) := hc'
      rw [List.append_assoc, List.cons_append, List.nil_append]
      rw [argsF_go (by rw [begT_key (hkey_app hq1 hk), ← e1]; exact hc) (g1 q1 _ hq1 hk), isT_key hk, if_neg (by rw [hi]; exact Bool.false_ne_true), isT_key hk, if_pos hj, List.tail_cons]

theorem compF_inv {tf : List Tok → PR Tm} {ts r : List Tok} {v : Tm} (h : compF tf ts = .ok v r) :
    (isT ts.tail [40] = true ∧ ∃ l, argsF tf 5 [] ts.tail.tail = .ok l r ∧ v = .mk (hd ts).text l) ∨ (isT ts.tail [40] = false ∧ v = .mk (hd ts).text [] ∧ r = ts.tail) := by
  rw [compF] at h
  cases hi : isT ts.tail [40] with
  | true =>
    rw [if_pos hi] at h
    cases ha : argsF tf 5 [] ts.tail.tail with
    | err p e => rw [ha] at h; cases h
    | ok l r' => rw [ha] at h; cases h; exact .inl ⟨rfl, l, rfl, rfl⟩
  | false => rw [if_neg (by rw [hi]; exact Bool.false_ne_true)] at h; cases h; exact .inr ⟨rfl, rfl, rfl⟩
theorem loc_comp (tf : List Tok → PR Tm) (H : ∀ ts, LocAt tf ts) (ts : List Tok) (hk0 : (hd ts).kind ≠ 0) : LocAt (compF tf) ts := by
  intro v r h
  obtain ⟨t, ts1, rfl⟩ := ne_of_kind hk0
  rcases compF_inv h with ⟨hi, l, ha, rfl⟩ | ⟨hi, rfl, rfl⟩
  · rw [List.tail_cons] at hi ha
    obtain ⟨c, r1, rfl⟩ := ne_of_kind (isT_kind hi)
    obtain ⟨p, e, k, g⟩ := loc_args tf H _ _ _ _ _ ha
    rw [List.tail_cons] at e
    refine ⟨t :: c :: p, by rw [e]; simp, mem_snoc (p1 := []) (by simp) hk0 (mem_snoc (p1 := []) (by simp) (isT_kind hi) k), fun p' r' hp hr => ?_⟩
    rw [List.map_cons, List.map_cons] at hp
    obtain ⟨t', q, rfl, ht', hp⟩ := List.map_eq_cons_iff.1 hp
    obtain ⟨c', q, rfl, hc', hp⟩ := List.map_eq_cons_iff.1 hp
    have hk : hkey (c' :: (q ++ r')) = hkey (c :: r1) := hc'
    have ht : (hd (t' :: c' :: (q ++ r'))).text = (hd (t :: c :: r1)).text := congrArg Prod.snd ht'
    rw [List.cons_append, List.cons_append, compF, List.tail_cons, isT_key hk, if_pos hi, List.tail_cons, g q r' hp hr, ht]
  · rw [List.tail_cons] at hi
    refine ⟨[t], rfl, mem_snoc (p1 := []) (by simp) hk0 (by simp), fun p' r' hp hr => ?_⟩
    rw [List.map_cons] at hp
    obtain ⟨t', q, rfl, ht', hp⟩ := List.map_eq_cons_iff.1 hp
    rw [List.map_nil, List.map_eq_nil_iff] at hp
    subst hp
    have ht : (hd (t' :: r')).text = (hd (t :: r)).text := congrArg Prod.snd ht'
    rw [List.cons_append, List.nil_append, compF, List.tail_cons, isT_key hr, if_neg (by rw [hi]; exact Bool.false_ne_true), ht]

theorem termF_inv {d : Nat} {ts r : List Tok} {v : Tm} (h : termF (d + 1) ts = .ok v r) :
    begT ts = true ∧ (((hd ts).kind = 1 ∧ compF (termF d) ts = .ok v r) ∨ ((hd ts).kind ≠ 1 ∧ v = .mk (hd ts).text [] ∧ r = ts.tail)) := by
  rw [termF] at h
  cases hb : begT ts with
  | false => rw [if_neg (by rw [hb]; exact Bool.false_ne_true)] at h; exact (fail_ne h).elim
  | true =>
    rw [if_pos hb] at h
    refine ⟨rfl, ?_⟩
    cases hk : (hd ts).kind == 1 with
    | true => rw [if_pos hk] at h; exact .inl ⟨beq_iff_eq.1 hk, h⟩
    | false => rw [if_neg (by rw [hk]; exact Bool.false_ne_true)] at h; cases h; exact .inr ⟨beq_eq_false_iff_ne.1 hk, rfl, rfl⟩
theorem termF_zero {ts r : List Tok} {v : Tm} (h : termF 0 ts = .ok v r) : False := by
  rw [termF] at h
  split at h <;> exact fail_ne h
theorem loc_term : ∀ (d : Nat) (ts : List Tok), LocAt (termF d) ts := by
  intro d
  induction d with
  | zero => intro ts v r h; exact (termF_zero h).elim
  | succ d ih =>
    intro ts v r h
    obtain ⟨hb, h⟩ := termF_inv h
    rcases h with ⟨hk, h⟩ | ⟨hk, rfl, rfl⟩
    · obtain ⟨p, e, k, g⟩ := loc_comp (termF d) ih ts (begT_kind hb) v r h
      refine ⟨p, e, k, fun p' r' hp hr => ?_⟩
      have hh := hkey_app hp hr
      rw [← e] at hh
      rw [termF, if_pos (by rw [begT_key hh]; exact hb), if_pos (by rw [kind_key hh, hk]; rfl)]
      exact g p' r' hp hr
    · obtain ⟨t, ts1, rfl⟩ := ne_of_kind (begT_kind hb)
      refine ⟨[t], rfl, mem_snoc (p1 := []) (by simp) (begT_kind hb) (by simp), fun p' r' hp hr => ?_⟩
      have hh := hkey_app hp hr
      rw [List.map_cons] at hp
      obtain ⟨t', q, rfl, ht', hp⟩ := List.map_eq_cons_iff.1 hp
      rw [List.map_nil, List.map_eq_nil_iff] at hp
      subst hp
      rw [List.cons_append, List.nil_append] at hh ⊢
      have ht : (hd (t' :: r')).text = (hd (t :: ts1)).text := congrArg Prod.snd ht'
      rw [termF, if_pos (by rw [begT_key hh]; exact hb), if_neg (by rw [kind_key hh]; simpa using hk), ht, List.tail_cons]

theorem atomF_inv {ts r : List Tok} {v : Tm} (h : atomF ts = .ok v r) : (hd ts).kind = 1 ∧ compF (termF 3) ts = .ok v r := by
  rw [atomF] at h
  cases hk : (hd ts).kind == 1 with
  | true => rw [if_pos hk] at h; exact ⟨beq_iff_eq.1 hk, h⟩
  | false => rw [if_neg (by rw [hk]; exact Bool.false_ne_true)] at h; exact (fail_ne h).elim
theorem loc_atom (ts : List Tok) : LocAt atomF ts := by
  intro v r h
  obtain ⟨hk, h⟩ := atomF_inv h
  obtain ⟨p, e, k, g⟩ := loc_comp (termF 3) (loc_term 3) ts (by omega) v r h
  refine ⟨p, e, k, fun p' r' hp hr => ?_⟩
  have hh := hkey_app hp hr
  rw [← e] at hh
  rw [atomF, if_pos (by rw [kind_key hh, hk]; rfl)]
  exact g p' r' hp hr

theorem litF_inv {o : Nat} {ts r : List Tok} {v : Li} (h : litF o ts = .ok v r) :
    (o == 8 && (isT ts [110, 111, 116] || (hd ts).kind == 1)) = false ∧ atomF (if isT ts [110, 111, 116] then ts.tail else ts) = .ok v.atom r ∧ v.neg = isT ts [110, 111, 116] := by
  rw [litF] at h
  cases hc : (o == 8 && (isT ts [110, 111, 116] || (hd ts).kind == 1)) with
  | true => rw [if_pos hc] at h; exact (fail_ne h).elim
  | false =>
    rw [if_neg (by rw [hc]; exact Bool.false_ne_true)] at h
    refine ⟨rfl, ?_⟩
    cases hn : isT ts [110, 111, 116] with
    | true =>
      rw [if_pos hn] at h
      cases ha : atomF ts.tail with
      | err p e => rw [ha] at h; cases h
      | ok t r' => rw [ha] at h; cases h; exact ⟨by rw [if_pos rfl]; exact ha, rfl⟩
    | false =>
      rw [if_neg (by rw [hn]; exact Bool.false_ne_true)] at h
      cases ha : atomF ts with
      | err p e => rw [ha] at h; cases h
      | ok t r' => rw [ha] at h; cases h; exact ⟨by rw [if_neg Bool.false_ne_true]; exact ha, rfl⟩
theorem litF_mk {o : Nat} {ts r : List Tok} {t : Tm} (hc : (o == 8 && (isT ts [110, 111, 116] || (hd ts).kind == 1)) = false) (ha : atomF (if isT ts [110, 111, 116] then ts.tail else ts) = .ok t r) :
    litF o ts = .ok ⟨isT ts [110, 111, 116], t⟩ r := by
  rw [litF, if_neg (by rw [hc]; exact Bool.false_ne_true)]
  cases hn : isT ts [110, 111, 116] with
  | true => rw [hn, if_pos rfl] at ha; rw [if_pos rfl, ha]
  | false => rw [hn, if_neg Bool.false_ne_true] at ha; rw [if_neg Bool.false_ne_true, ha]
theorem loc_lit (o : Nat) (ts : List Tok) : LocAt (litF o) ts := by
  intro v r h
  obtain ⟨hc, ha, hn⟩ := litF_inv h
  cases v with
  | mk ng at_ =>
  simp only at ha hn
  cases hi : isT ts [110, 111, 116] with
  | true =>
    rw [hi, if_pos rfl] at ha
    obtain ⟨c, r1, rfl⟩ := ne_of_kind (isT_kind hi)
    obtain ⟨p, e, k, g⟩ := loc_atom _ _ _ ha
    rw [List.tail_cons] at e
    refine ⟨c :: p, by rw [e]; simp, mem_snoc (p1 := []) (by simp) (isT_kind hi) k, fun p' r' hp hr => ?_⟩
    have hh := hkey_ne (r' := r') (r := r) hp (by simp)
    rw [List.cons_append, ← e] at hh
    rw [List.map_cons] at hp
    obtain ⟨c', q, rfl, hc', hp⟩ := List.map_eq_cons_iff.1 hp
    rw [hn, ← isT_key hh]
    refine litF_mk (by rw [isT_key hh, kind_key hh]; exact hc) ?_
    rw [isT_key hh, hi, if_pos rfl, List.cons_append, List.tail_cons]
    exact g q r' hp hr
  | false =>
    rw [hi, if_neg Bool.false_ne_true] at ha
    obtain ⟨p, e, k, g⟩ := loc_atom _ _ _ ha
    refine ⟨p, e, k, fun p' r' hp hr => ?_⟩
    have hh := hkey_app hp hr
    rw [← e] at hh
    rw [hn, ← isT_key hh]
    refine litF_mk (by rw [isT_key hh, kind_key hh]; exact hc) ?_
    rw [isT_key hh, hi, if_neg Bool.false_ne_true]
    exact g p' r' hp hr

theorem bodyF_inv {n : Nat} {acc : List Li} {ts r : List Tok} {v : List Li} (h : bodyF (n + 1) acc ts = .ok v r) :
    ∃ l ts', litF acc.length ts = .ok l ts' ∧ ((isT ts' [97, 110, 100] = true ∧ bodyF n (acc ++ [l]) ts'.tail = .ok v r) ∨ (isT ts' [97, 110, 100] = false ∧ v = acc ++ [l] ∧ r = ts')) := by
  rw [bodyF] at h
  cases hl : litF acc.length ts with
  | err p e => rw [hl] at h; cases h
  | ok l ts' =>
    rw [hl] at h
    simp only at h
    refine ⟨l, ts', rfl, ?_⟩
    cases hi : isT ts' [97, 110, 100] with
    | true => rw [if_pos hi] at h; exact .inl ⟨rfl, h⟩
    | false => rw [if_neg (by rw [hi]; exact Bool.false_ne_true)] at h; cases h; exact .inr ⟨rfl, rfl, rfl⟩
theorem loc_body : ∀ (n : Nat) (acc : List Li) (ts : List Tok), LocAt (bodyF n acc) ts := by
  intro n
  induction n with
  | zero => intro acc ts v r h; exact (fail_ne h).elim
  | succ n ih =>
    intro acc ts v r h
    obtain ⟨l, ts', hl, h⟩ := bodyF_inv h
    obtain ⟨p1, e1, k1, g1⟩ := loc_lit _ _ _ _ hl
    rcases h with ⟨hi, h⟩ | ⟨hi, rfl, rfl⟩
    · obtain ⟨c, r1, rfl⟩ := ne_of_kind (isT_kind hi)
      obtain ⟨p2, e2, k2, g2⟩ := ih _ _ _ _ h
      rw [List.tail_cons] at e2
      refine ⟨p1 ++ c :: p2, by rw [e1, e2]; simp, mem_snoc k1 (isT_kind hi) k2, fun p' r' hp hr => ?_⟩
      rw [List.map_append, List.map_cons] at hp
      obtain ⟨q1, q2, rfl, hq1, hq2⟩ := List.map_eq_append_iff.1 hp
      obtain ⟨c', q3, rfl, hc', hq3⟩ := List.map_eq_cons_iff.1 hq2
      have hk : hkey (c' :: (q3 ++ r')) = hkey (c :: r1) := hc'
      rw [List.append_assoc, List.cons_append, bodyF, g1 q1 _ hq1 hk]
      simp only
      rw [isT_key hk, if_pos hi, List.tail_cons]
      exact g2 q3 r' hq3 hr
    · refine ⟨p1, e1, k1, fun p' r' hp hr => ?_⟩
      rw [bodyF, g1 p' r' hp hr]
      simp only
      rw [isT_key hr, if_neg (by rw [hi]; exact Bool.false_ne_true)]

theorem ruleF_inv {ts r : List Tok} {v : Ru} (h : ruleF ts = .ok v r) :
    ∃ ts1 ts2, atomF ts = .ok v.head ts1 ∧ ((isT ts1 [105, 102] = true ∧ bodyF 9 [] ts1.tail = .ok v.body ts2) ∨ (isT ts1 [105, 102] = false ∧ v.body = [] ∧ ts2 = ts1)) ∧ isT ts2 [46] = true ∧ r = ts2.tail := by
  rw [ruleF] at h
  cases ha : atomF ts with
  | err p e => rw [ha] at h; cases h
  | ok hh ts1 =>
    rw [ha] at h
    simp only at h
    cases hi : isT ts1 [105, 102] with
    | true =>
      rw [if_pos hi] at h
      cases hb : bodyF 9 [] ts1.tail with
      | err p e => rw [hb] at h; cases h
      | ok b ts2 =>
        rw [hb] at h
        simp only at h
        cases hd : isT ts2 [46] with
        | true => rw [if_pos hd] at h; cases h; exact ⟨ts1, ts2, rfl, .inl ⟨hi, hb⟩, hd, rfl⟩
        | false => rw [if_neg (by rw [hd]; exact Bool.false_ne_true)] at h; exact (fail_ne h).elim
    | false =>
      rw [if_neg (by rw [hi]; exact Bool.false_ne_true)] at h
      simp only at h
      cases hd : isT ts1 [46] with
      | true => rw [if_pos hd] at h; cases h; exact ⟨ts1, ts1, rfl, .inr ⟨hi, rfl, rfl⟩, hd, rfl⟩
      | false => rw [if_neg (by rw [hd]; exact Bool.false_ne_true)] at h; exact (fail_ne h).elim
/-- a rule: whatever stands behind -/
theorem loc_rule (ts : List Tok) (v : Ru) (r : List Tok) (h : ruleF ts = .ok v r) :
    ∃ p, ts = p ++ r ∧ p ≠ [] ∧ (∀ t ∈ p, t.kind ≠ 0) ∧ ∀ p' r', p'.map tkey = p.map tkey → ruleF (p' ++ r') = .ok v r' := by
  obtain ⟨ts1, ts2, ha, hb, hd, rfl⟩ := ruleF_inv h
  cases v with
  | mk hh bb =>
  simp only at ha hb
  obtain ⟨p1, e1, k1, g1⟩ := loc_atom _ _ _ ha
  obtain ⟨c, r2, rfl⟩ := ne_of_kind (isT_kind hd)
  rcases hb with ⟨hi, hb⟩ | ⟨hi, rfl, rfl⟩
  · obtain ⟨i, r1, rfl⟩ := ne_of_kind (isT_kind hi)
    obtain ⟨p2, e2, k2, g2⟩ := loc_body _ _ _ _ _ hb
    rw [List.tail_cons] at e2
    refine ⟨p1 ++ i :: (p2 ++ [c]), by rw [e1, e2]; simp, by simp, mem_snoc k1 (isT_kind hi) (mem_snoc k2 (isT_kind hd) (by simp)), fun p' r' hp => ?_⟩
    rw [List.map_append, List.map_cons, List.map_append, List.map_cons] at hp
    obtain ⟨q1, q2, rfl, hq1, hq2⟩ := List.map_eq_append_iff.1 hp
    obtain ⟨i', q3, rfl, hi', hq3⟩ := List.map_eq_cons_iff.1 hq2
    obtain ⟨q4, q5, rfl, hq4, hq5⟩ := List.map_eq_append_iff.1 hq3
    obtain ⟨c', q6, rfl, hc', hq6⟩ := List.map_eq_cons_iff.1 hq5
    rw [List.map_nil, List.map_eq_nil_iff] at hq6
    subst hq6
    have hk1 : hkey (i' :: (q4 ++ c' :: r')) = hkey (i :: r1) := hi'
    have hk2 : hkey (c' :: r') = hkey (c :: r2) := hc'
    rw [List.append_assoc, List.cons_append, List.append_assoc, List.cons_append, List.nil_append, ruleF, g1 q1 _ hq1 hk1]
    simp only
    rw [isT_key hk1, if_pos hi, List.tail_cons, g2 q4 _ hq4 hk2]
    simp only
    rw [isT_key hk2, if_pos hd, List.tail_cons]
  · refine ⟨p1 ++ [c], by rw [e1]; simp, by simp, mem_snoc k1 (isT_kind hd) (by simp), fun p' r' hp => ?_⟩
    rw [List.map_append, List.map_cons] at hp
    obtain ⟨q1, q2, rfl, hq1, hq2⟩ := List.map_eq_append_iff.1 hp
    obtain ⟨c', q6, rfl, hc', hq6⟩ := List.map_eq_cons_iff.1 hq2
    rw [List.map_nil, List.map_eq_nil_iff] at hq6
    subst hq6
    have hk2 : hkey (c' :: r') = hkey (c :: r2) := hc'
    rw [List.append_assoc, List.cons_append, List.nil_append, ruleF, g1 q1 _ hq1 hk2]
    simp only
    rw [isT_key hk2, if_neg (by rw [hi]; exact Bool.false_ne_true)]
    simp only
    rw [isT_key hk2, if_pos hd, List.tail_cons]

theorem rulesF_inv {n : Nat} {acc : List Ru} {ts r : List Tok} {v : List Ru} (h : rulesF (n + 1) acc ts = .ok v r) :
    ((hd ts).kind = 0 ∧ v = acc ∧ r = ts) ∨ ((hd ts).kind ≠ 0 ∧ (acc.length == 128 && (hd ts).kind == 1) = false ∧ ∃ x ts', ruleF ts = .ok x ts' ∧ rulesF n (acc ++ [x]) ts' = .ok v r) := by
  rw [rulesF] at h
  cases h0 : (hd ts).kind == 0 with
  | true => rw [if_pos h0] at h; cases h; exact .inl ⟨beq_iff_eq.1 h0, rfl, rfl⟩
  | false =>
    rw [if_neg (by rw [h0]; exact Bool.false_ne_true)] at h
    cases hc : (acc.length == 128 && (hd ts).kind == 1) with
    | true => rw [if_pos hc] at h; exact (fail_ne h).elim
    | false =>
      rw [if_neg (by rw [hc]; exact Bool.false_ne_true)] at h
      cases hr : ruleF ts with
      | err p e => rw [hr] at h; cases h
      | ok x ts' => rw [hr] at h; exact .inr ⟨beq_eq_false_iff_ne.1 h0, rfl, x, ts', rfl, h⟩
theorem rulesF_step {n : Nat} {acc : List Ru} {ts ts' : List Tok} {x : Ru} (h0 : (hd ts).kind ≠ 0) (hl : acc.length < 128) (hr : ruleF ts = .ok x ts') : rulesF (n + 1) acc ts = rulesF n (acc ++ [x]) ts' := by
  rw [rulesF, if_neg (by simpa using h0), if_neg (by simp; intro h; omega), hr]
theorem rulesF_stop {n : Nat} {acc : List Ru} {ts : List Tok} (h0 : (hd ts).kind = 0) : rulesF (n + 1) acc ts = .ok acc ts := by
  rw [rulesF, if_pos (by rw [h0]; rfl)]
/-- a list of rules: it goes on behind them, whatever stands there -/
theorem rulesF_reads : ∀ (n : Nat) (acc : List Ru) (ts : List Tok) (out : List Ru) (r : List Tok), rulesF n acc ts = .ok out r →
    ∃ p rs, ts = p ++ r ∧ out = acc ++ rs ∧ (hd r).kind = 0 ∧ (∀ t ∈ p, t.kind ≠ 0) ∧
      ∀ (p' : List Tok), p'.map tkey = p.map tkey → ∀ (m : Nat) (acc' : List Ru) (r' : List Tok), rs.length ≤ m → acc'.length + rs.length ≤ 128 → rulesF m acc' (p' ++ r') = rulesF (m - rs.length) (acc' ++ rs) r' := by
  intro n
  induction n with
  | zero => intro acc ts out r h; exact (fail_ne h).elim
  | succ n ih =>
    intro acc ts out r h
    rcases rulesF_inv h with ⟨h0, rfl, rfl⟩ | ⟨h0, hc, x, ts', hr, h⟩
    · refine ⟨[], [], rfl, by simp, h0, by simp, fun p' hp m acc' r' _ _ => ?_⟩
      rw [List.map_nil, List.map_eq_nil_iff] at hp
      subst hp
      simp
    · obtain ⟨p1, e1, n1, k1, g1⟩ := loc_rule _ _ _ hr
      obtain ⟨p2, rs, e2, e3, h2, k2, g2⟩ := ih _ _ _ _ h
      refine ⟨p1 ++ p2, x :: rs, by rw [e1, e2]; simp, by rw [e3]; simp, h2, ?_, fun p' hp m acc' r' hm hl => ?_⟩
      · intro t ht
        rcases List.mem_append.1 ht with ht | ht
        · exact k1 t ht
        · exact k2 t ht
      · rw [List.map_append] at hp
        obtain ⟨q1, q2, rfl, hq1, hq2⟩ := List.map_eq_append_iff.1 hp
        simp only [List.length_cons] at hm hl
        cases m with
        | zero => omega
        | succ m =>
          have hh := hkey_ne (r' := q2 ++ r') (r := ts') hq1 n1
          rw [← e1] at hh
          rw [List.append_assoc, rulesF_step (by rw [kind_key hh]; exact h0) (by omega) (g1 q1 _ hq1), g2 q2 hq2 m _ r' (by omega) (by simp; omega)]
          rw [List.append_assoc, List.singleton_append]
          congr 1
          simp

/-- the end of the accepted tokens -/
theorem reads_end {p r l0 : List Tok} {e : Tok} (h : p ++ r = l0 ++ [e]) (hr : (hd r).kind = 0) (hp : ∀ t ∈ p, t.kind ≠ 0) (hl : ∀ t ∈ l0, t.kind ≠ 0) (he : e.kind = 0) : p = l0 ∧ r = [e] := by
  rcases List.append_eq_append_iff.1 h with ⟨x, h1, h2⟩ | ⟨x, h1, h2⟩
  · cases x with
    | nil => exact ⟨by simpa using h1.symm, by simpa using h2⟩
    | cons t x =>
      exfalso
      rw [h2] at hr
      exact hl t (by rw [h1]; simp) hr
  · cases x with
    | nil => exact ⟨by simpa using h1, by simpa using h2.symm⟩
    | cons t x =>
      exfalso
      rw [List.cons_append] at h2
      have ht : e = t := by injection h2
      exact hp t (by rw [h1]; simp) (by rw [← ht]; exact he)

theorem tkey_shift (k : Nat) (l : List Tok) : (l.map (shiftT k)).map tkey = l.map tkey := by
  rw [List.map_map]; rfl

/-- the rules of two texts on separate lines -/
theorem parse_lines {a b : List UInt8} {la lb : List Ru} (ha : parseF a = .ok la) (hb : parseF b = .ok lb) (hl : la.length + lb.length ≤ 128) (hs : a.length + 1 + b.length ≤ 16384) : parseF (a ++ 10 :: b) = .ok (la ++ lb) := by
  unfold parseF readF at ha hb ⊢
  cases xa : lexF a with
  | err p e => rw [xa] at ha; cases ha
  | ok ta =>
    cases xb : lexF b with
    | err p e => rw [xb] at hb; cases hb
    | ok tb =>
      rw [xa] at ha
      rw [xb] at hb
      simp only at ha hb
      obtain ⟨_, l0, rfl, hk0, hx⟩ := lexF_ok xa
      obtain ⟨_, l1, rfl, hk1, _⟩ := lexF_ok xb
      rw [hx b hs, xb]
      simp only [LexR.shift, LexR.pre]
      cases ra : rulesF 129 [] (l0 ++ [⟨0, [], a.length⟩]) with
      | err p e => rw [ra] at ha; cases ha
      | ok va r =>
        rw [ra, endF] at ha
        cases rb : rulesF 129 [] (l1 ++ [⟨0, [], b.length⟩]) with
        | err p e => rw [rb] at hb; cases hb
        | ok vb r2 =>
          rw [rb, endF] at hb
          obtain ⟨p, rs, e1, e2, h0, hp, g⟩ := rulesF_reads _ _ _ _ _ ra
          obtain ⟨p2, rs2, e3, e4, h2, hp2, g2⟩ := rulesF_reads _ _ _ _ _ rb
          rw [if_pos (by rw [h0]; rfl)] at ha
          rw [if_pos (by rw [h2]; rfl)] at hb
          cases ha
          cases hb
          rw [List.nil_append] at e2 e4
          subst e2
          subst e4
          obtain ⟨rfl, rfl⟩ := reads_end e1.symm h0 hp hk0 rfl
          obtain ⟨rfl, rfl⟩ := reads_end e3.symm h2 hp2 hk1 rfl
          rw [g p rfl _ _ _ (by omega) (by simp; omega), List.nil_append, List.map_append, g2 _ (tkey_shift _ _) _ _ _ (by omega) (by omega)]
          have hm : ∃ m, 129 - la.length - lb.length = m + 1 := ⟨128 - la.length - lb.length, by omega⟩
          obtain ⟨m, hm⟩ := hm
          rw [hm, rulesF_stop (by rfl), endF, if_pos (by rfl)]

/-- one rule, and a list of one rule -/
theorem rule_one {l : List UInt8} {x : Ru} (h : ruleRF l = .ok x) : parseF l = .ok [x] := by
  unfold ruleRF readF at h
  unfold parseF readF
  cases hx : lexF l with
  | err p e => rw [hx] at h; cases h
  | ok ts =>
    rw [hx] at h
    simp only at h ⊢
    cases hr : ruleF ts with
    | err p e => rw [hr] at h; cases h
    | ok v r =>
      rw [hr, endF] at h
      cases h0 : (hd r).kind == 0 with
      | false => rw [if_neg (by rw [h0]; exact Bool.false_ne_true)] at h; cases h
      | true =>
        rw [if_pos h0] at h
        cases h
        obtain ⟨p, e, hn, hk, _⟩ := loc_rule _ _ _ hr
        have hh : (hd ts).kind ≠ 0 := by
          cases p with
          | nil => exact absurd rfl hn
          | cons t p => rw [e]; exact hk t (by simp)
        rw [rulesF_step hh (by simp) hr, List.nil_append, rulesF_stop (beq_iff_eq.1 h0), endF, if_pos h0]
theorem one_rule {l : List UInt8} {x : Ru} (h : parseF l = .ok [x]) : ruleRF l = .ok x := by
  unfold parseF readF at h
  unfold ruleRF readF
  cases hx : lexF l with
  | err p e => rw [hx] at h; cases h
  | ok ts =>
    rw [hx] at h
    simp only at h ⊢
    cases hr : rulesF 129 [] ts with
    | err p e => rw [hr] at h; cases h
    | ok v r =>
      rw [hr, endF] at h
      cases h0 : (hd r).kind == 0 with
      | false => rw [if_neg (by rw [h0]; exact Bool.false_ne_true)] at h; cases h
      | true =>
        rw [if_pos h0] at h
        have hv : v = [x] := by injection h
        subst hv
        rcases rulesF_inv hr with ⟨_, h1, _⟩ | ⟨hk, hc, y, ts', hy, hrest⟩
        · cases h1
        · rcases rulesF_inv hrest with ⟨hk2, h1, h2⟩ | ⟨_, _, z, ts2, _, hrest2⟩
          · rw [List.nil_append] at h1
            have hxy : x = y := by injection h1
            subst hxy
            rw [hy, endF, ← h2, if_pos h0]
          · exfalso
            obtain ⟨_, rs, _, h3, _⟩ := rulesF_reads _ _ _ _ _ hrest2
            have := congrArg List.length h3
            simp at this

end
/- What the parser gives is valid: plain laws. -/
section

def Tm.name : Tm → List UInt8 | .mk nm _ => nm
def Tm.args : Tm → List Tm | .mk _ l => l
/-- a valid term of at most so many levels -/
def validT (var : Bool) : Nat → Tm → Bool
  | 0, _ => false
  | n + 1, t => if t.args.length = 0 then (nameF t.name || numF t.name) || (var && varF t.name) else nameF t.name && decide (t.args.length ≤ 4) && t.args.all (validT var n)
def atomV (t : Tm) : Bool := validT true 4 t && nameF t.name

theorem kind_name {l : List UInt8} (h : kindF l = 1) : nameF l = true := by
  unfold kindF at h
  split at h
  · omega
  · split at h
    · assumption
    · split at h
      · omega
      · split at h <;> omega
theorem kind_num {l : List UInt8} (h : kindF l = 2) : numF l = true := by
  unfold kindF at h
  split at h
  · omega
  · split at h
    · omega
    · split at h
      · assumption
      · split at h <;> omega
theorem kind_var {l : List UInt8} (h : kindF l = 3) : varF l = true := by
  unfold kindF at h
  split at h
  · omega
  · split at h
    · omega
    · split at h
      · omega
      · split at h
        · assumption
        · omega

def Good (ts : List Tok) : Prop := ∀ t ∈ ts, goodT t
theorem Good.hd {ts : List Tok} (h : Good ts) (hk : (hd ts).kind ≠ 0) : goodT (Go.Proofs.YtmplpbdldcokjaaGreatDoor.hd ts) := by
  obtain ⟨t, r, rfl⟩ := ne_of_kind hk
  exact h t (by simp)
theorem Good.tail {ts : List Tok} (h : Good ts) : Good ts.tail := fun t ht => h t (List.mem_of_mem_tail ht)
theorem Good.rest {α : Type} {f : List Tok → PR α} {ts r : List Tok} {v : α} (hl : LocAt f ts) (h : Good ts) (he : f ts = .ok v r) : Good r := by
  obtain ⟨p, e, _, _⟩ := hl v r he
  exact fun t ht => h t (by rw [e]; exact List.mem_append_right _ ht)
theorem Good.name {ts : List Tok} (h : Good ts) (hk : (Go.Proofs.YtmplpbdldcokjaaGreatDoor.hd ts).kind = 1) : nameF (Go.Proofs.YtmplpbdldcokjaaGreatDoor.hd ts).text = true :=
  kind_name ((h.hd (by omega) (by omega) (by omega)).trans hk)

theorem args_valid (tf : List Tok → PR Tm) (H : ∀ ts, LocAt tf ts) (d : Nat) (hb : ∀ ts v r, tf ts = .ok v r → begT ts = true) (hv : ∀ ts v r, Good ts → tf ts = .ok v r → validT true d v = true) :
    ∀ (n : Nat) (acc : List Tm) (ts r : List Tok) (v : List Tm), Good ts → acc.length ≤ 4 → (acc.all (validT true d)) = true → argsF tf n acc ts = .ok v r → 0 < v.length ∧ v.length ≤ 4 ∧ v.all (validT true d) = true := by
  intro n
  induction n with
  | zero => intro acc ts r v _ _ _ h; exact (fail_ne h).elim
  | succ n ih =>
    intro acc ts r v hg hl ha h
    obtain ⟨hc, t, ts', ht, h⟩ := argsF_inv h
    have hlt : acc.length < 4 := by
      rcases Nat.lt_or_ge acc.length 4 with h4 | h4
      · exact h4
      · have e4 : acc.length = 4 := by omega
        rw [e4, hb _ _ _ ht] at hc
        cases hc
    have hall : (acc ++ [t]).all (validT true d) = true := by
      rw [List.all_append, ha, Bool.true_and, List.all_cons, hv _ _ _ hg ht]; rfl
    rcases h with ⟨_, h⟩ | ⟨_, _, rfl, _⟩
    · exact ih _ _ _ _ (hg.rest (H ts) ht).tail (by simp; omega) hall h
    · exact ⟨by simp, by simp; omega, hall⟩
theorem comp_valid (tf : List Tok → PR Tm) (H : ∀ ts, LocAt tf ts) (d : Nat) (hb : ∀ ts v r, tf ts = .ok v r → begT ts = true) (hv : ∀ ts v r, Good ts → tf ts = .ok v r → validT true d v = true)
    {ts r : List Tok} {v : Tm} (hg : Good ts) (hk : (hd ts).kind = 1) (h : compF tf ts = .ok v r) : validT true (d + 1) v = true ∧ nameF v.name = true := by
  have hn := hg.name hk
  rcases compF_inv h with ⟨_, l, ha, rfl⟩ | ⟨_, rfl, _⟩
  · obtain ⟨h0, h4, hall⟩ := args_valid tf H d hb hv _ _ _ _ _ hg.tail.tail (by simp) (by simp) ha
    refine ⟨?_, hn⟩
    rw [validT, if_neg (by simp only [Tm.args]; omega)]
    simp only [Tm.args, Tm.name, hn, hall, h4, decide_true, Bool.and_self]
  · refine ⟨?_, hn⟩
    rw [validT, if_pos (by rfl)]
    simp only [Tm.name, hn, Bool.true_or]
theorem term_beg {d : Nat} {ts r : List Tok} {v : Tm} (h : termF d ts = .ok v r) : begT ts = true := by
  cases d with
  | zero => exact (termF_zero h).elim
  | succ d => exact (termF_inv h).1
theorem term_valid : ∀ (d : Nat) (ts : List Tok) (v : Tm) (r : List Tok), Good ts → termF d ts = .ok v r → validT true d v = true := by
  intro d
  induction d with
  | zero => intro ts v r _ h; exact (termF_zero h).elim
  | succ d ih =>
    intro ts v r hg h
    obtain ⟨hb, h⟩ := termF_inv h
    rcases h with ⟨hk, h⟩ | ⟨hk, rfl, rfl⟩
    · exact (comp_valid (termF d) (loc_term d) d (fun _ _ _ h => term_beg h) ih hg hk h).1
    · have hne := begT_kind hb
      have hgd := hg.hd hne
      rw [validT, if_pos (by rfl)]
      simp only [Tm.name]
      have hk2 : (hd ts).kind = 2 ∨ (hd ts).kind = 3 := by
        unfold begT at hb
        simp only [Bool.or_eq_true, beq_iff_eq] at hb
        omega
      rcases hk2 with hk2 | hk2
      · rw [kind_num ((hgd hne (by omega)).trans hk2)]; simp
      · rw [kind_var ((hgd hne (by omega)).trans hk2)]; simp
theorem atom_valid {ts r : List Tok} {v : Tm} (hg : Good ts) (h : atomF ts = .ok v r) : atomV v = true := by
  obtain ⟨hk, h⟩ := atomF_inv h
  obtain ⟨h1, h2⟩ := comp_valid (termF 3) (loc_term 3) 3 (fun _ _ _ h => term_beg h) (term_valid 3) hg hk h
  unfold atomV
  rw [h1, h2]; rfl
theorem lit_valid {o : Nat} {ts r : List Tok} {v : Li} (hg : Good ts) (h : litF o ts = .ok v r) : atomV v.atom = true ∧ o ≠ 8 := by
  obtain ⟨hc, ha, _⟩ := litF_inv h
  refine ⟨?_, ?_⟩
  · cases hi : isT ts [110, 111, 116] with
    | true => rw [hi, if_pos rfl] at ha; exact atom_valid hg.tail ha
    | false => rw [hi, if_neg Bool.false_ne_true] at ha; exact atom_valid hg ha
  · rintro rfl
    cases hi : isT ts [110, 111, 116] with
    | true => rw [hi] at hc; cases hc
    | false =>
      rw [hi, if_neg Bool.false_ne_true] at ha
      rw [hi, (atomF_inv ha).1] at hc
      cases hc
theorem body_valid : ∀ (n : Nat) (acc : List Li) (ts r : List Tok) (v : List Li), Good ts → acc.length ≤ 8 → (∀ l ∈ acc, atomV l.atom = true) → bodyF n acc ts = .ok v r → v.length ≤ 8 ∧ ∀ l ∈ v, atomV l.atom = true := by
  intro n
  induction n with
  | zero => intro acc ts r v _ _ _ h; exact (fail_ne h).elim
  | succ n ih =>
    intro acc ts r v hg hl ha h
    obtain ⟨l, ts', ht, h⟩ := bodyF_inv h
    obtain ⟨h1, h2⟩ := lit_valid hg ht
    have hall : ∀ x ∈ acc ++ [l], atomV x.atom = true := by
      intro x hx
      rcases List.mem_append.1 hx with hx | hx
      · exact ha x hx
      · rw [List.mem_singleton] at hx; rw [hx]; exact h1
    rcases h with ⟨_, h⟩ | ⟨_, rfl, _⟩
    · exact ih _ _ _ _ (hg.rest (loc_lit _ ts) ht).tail (by simp; omega) hall h
    · exact ⟨by simp; omega, hall⟩
/-- a rule within the limits -/
def ruleV (r : Ru) : Prop := atomV r.head = true ∧ r.body.length ≤ 8 ∧ ∀ l ∈ r.body, atomV l.atom = true
theorem rule_valid {ts r : List Tok} {v : Ru} (hg : Good ts) (h : ruleF ts = .ok v r) : ruleV v := by
  obtain ⟨ts1, ts2, ha, hb, _, _⟩ := ruleF_inv h
  refine ⟨atom_valid hg ha, ?_⟩
  rcases hb with ⟨_, hb⟩ | ⟨_, hb, _⟩
  · exact body_valid _ _ _ _ _ (hg.rest (loc_atom ts) ha).tail (by simp) (by simp) hb
  · rw [hb]; simp
theorem rules_valid : ∀ (n : Nat) (acc : List Ru) (ts r : List Tok) (v : List Ru), Good ts → acc.length ≤ 128 → (∀ l ∈ acc, ruleV l) → rulesF n acc ts = .ok v r → v.length ≤ 128 ∧ ∀ l ∈ v, ruleV l := by
  intro n
  induction n with
  | zero => intro acc ts r v _ _ _ h; exact (fail_ne h).elim
  | succ n ih =>
    intro acc ts r v hg hl ha h
    rcases rulesF_inv h with ⟨h0, rfl, rfl⟩ | ⟨h0, hc, x, ts', hr, h⟩
    · exact ⟨hl, ha⟩
    · have hlt : acc.length < 128 := by
        rcases Nat.lt_or_ge acc.length 128 with h4 | h4
        · exact h4
        · have e4 : acc.length = 128 := by omega
          obtain ⟨_, _, hat, _⟩ := ruleF_inv hr
          rw [e4, (atomF_inv hat).1] at hc
          cases hc
      refine ih _ _ _ _ ?_ (by simp; omega) ?_ h
      · obtain ⟨p, e, _, _, _⟩ := loc_rule _ _ _ hr
        exact fun t ht => hg t (by rw [e]; exact List.mem_append_right _ ht)
      · intro l hl
        rcases List.mem_append.1 hl with hl | hl
        · exact ha l hl
        · rw [List.mem_singleton] at hl; rw [hl]; exact rule_valid hg hr
theorem parse_valid {l : List UInt8} {v : List Ru} (h : parseF l = .ok v) : v.length ≤ 128 ∧ ∀ r ∈ v, ruleV r := by
  unfold parseF readF at h
  cases hx : lexF l with
  | err p e => rw [hx] at h; cases h
  | ok ts =>
    rw [hx] at h
    simp only at h
    cases hr : rulesF 129 [] ts with
    | err p e => rw [hr] at h; cases h
    | ok v' r =>
      rw [hr, endF] at h
      cases h0 : (hd r).kind == 0 with
      | false => rw [if_neg (by rw [h0]; exact Bool.false_ne_true)] at h; cases h
      | true =>
        rw [if_pos h0] at h
        cases h
        exact rules_valid _ _ _ _ _ (lexF_good hx) (by simp) (by simp) hr

end
end Go.Proofs.YtmplpbdldcokjaaGreatDoor
