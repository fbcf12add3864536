/- Plain laws of the lexer: the fuel does not matter, offsets shift, texts on separate lines. -/
import Derived.Test.YtmpdnmnimdkfnaaDoorPx
namespace Go.Proofs.YtmpdnmnimdkfnaaDoor

theorem tw_le {α : Type} (p : α → Bool) (l : List α) : (l.takeWhile p).length ≤ l.length := (List.takeWhile_sublist p).length_le
theorem dw_le {α : Type} (p : α → Bool) (l : List α) : (l.dropWhile p).length ≤ l.length := (List.dropWhile_sublist p).length_le
theorem dw_lt {α : Type} (p : α → Bool) (c : α) (r : List α) (h : p c = true) : ((c :: r).dropWhile p).length ≤ r.length := by
  rw [List.dropWhile_cons_of_pos h]; exact dw_le p r
theorem tw_dw {α : Type} (p : α → Bool) (l : List α) : (l.takeWhile p).length + (l.dropWhile p).length = l.length := by
  rw [← List.length_append, List.takeWhile_append_dropWhile]
theorem tw_app {α : Type} (p : α → Bool) (x : α) (b : List α) (hx : p x = false) : ∀ a : List α, (a ++ x :: b).takeWhile p = a.takeWhile p
  | [] => by rw [List.nil_append, List.takeWhile_cons_of_neg (by simp [hx])]; rfl
  | c :: r => by
    cases h : p c with
    | true => rw [List.cons_append, List.takeWhile_cons_of_pos h, List.takeWhile_cons_of_pos h, tw_app p x b hx r]
    | false => rw [List.cons_append, List.takeWhile_cons_of_neg (by simp [h]), List.takeWhile_cons_of_neg (by simp [h])]
theorem dw_app {α : Type} (p : α → Bool) (x : α) (b : List α) (hx : p x = false) : ∀ a : List α, (a ++ x :: b).dropWhile p = a.dropWhile p ++ x :: b
  | [] => by rw [List.nil_append, List.dropWhile_cons_of_neg (by simp [hx])]; rfl
  | c :: r => by
    cases h : p c with
    | true => rw [List.cons_append, List.dropWhile_cons_of_pos h, List.dropWhile_cons_of_pos h, dw_app p x b hx r]
    | false => rw [List.cons_append, List.dropWhile_cons_of_neg (by simp [h]), List.dropWhile_cons_of_neg (by simp [h])]; rfl
theorem hash_noLf {n : Int} (h : (n == 35) = true) : noLf n = true := by rw [beq_iff_eq] at h; subst h; rfl

/-- the cases of one step -/
inductive Step1 (c : UInt8) : Prop where
  | blank (h : blankB (bInt c) = true)
  | hash (h : blankB (bInt c) = false) (h2 : (bInt c == 35) = true)
  | run (h : blankB (bInt c) = false) (h2 : (bInt c == 35) = false) (h3 : runB (bInt c) = true)
  | sym (h : blankB (bInt c) = false) (h2 : (bInt c == 35) = false) (h3 : runB (bInt c) = false) (h4 : symB (bInt c) = true)
  | bad (h : blankB (bInt c) = false) (h2 : (bInt c == 35) = false) (h3 : runB (bInt c) = false) (h4 : symB (bInt c) = false)
theorem step1 (c : UInt8) : Step1 c := by
  cases h : blankB (bInt c) with
  | true => exact .blank h
  | false =>
    cases h2 : (bInt c == 35) with
    | true => exact .hash h h2
    | false =>
      cases h3 : runB (bInt c) with
      | true => exact .run h h2 h3
      | false =>
        cases h4 : symB (bInt c) with
        | true => exact .sym h h2 h3 h4
        | false => exact .bad h h2 h3 h4

theorem lexGo_fuel : ∀ (f g off : Nat) (l : List UInt8), l.length < f → l.length < g → lexGo f off l = lexGo g off l := by
  intro f
  induction f with
  | zero => intro g off l h; omega
  | succ f ih =>
    intro g off l hf hg
    cases g with
    | zero => omega
    | succ g =>
      cases l with
      | nil => rw [lexGo_nil, lexGo_nil]
      | cons c r =>
        simp only [List.length_cons] at hf hg
        cases step1 c with
        | blank h => rw [lexGo_blank _ _ _ _ h, lexGo_blank _ _ _ _ h]; exact ih _ _ _ (by omega) (by omega)
        | hash h h2 =>
          rw [lexGo_hash _ _ _ _ h h2, lexGo_hash _ _ _ _ h h2]
          have := dw_lt (fun c => noLf (bInt c)) c r (hash_noLf h2)
          exact ih _ _ _ (by omega) (by omega)
        | run h h2 h3 =>
          cases h4 : (kindF ((c :: r).takeWhile (fun c => runB (bInt c))) == 0) with
          | true => rw [lexGo_badrun _ _ _ _ h h2 h3 h4, lexGo_badrun _ _ _ _ h h2 h3 h4]
          | false =>
            rw [lexGo_run _ _ _ _ h h2 h3 h4, lexGo_run _ _ _ _ h h2 h3 h4]
            have := dw_lt (fun c => runB (bInt c)) c r h3
            rw [ih g _ _ (by omega) (by omega)]
        | sym h h2 h3 h4 => rw [lexGo_sym _ _ _ _ h h2 h3 h4, lexGo_sym _ _ _ _ h h2 h3 h4, ih g _ _ (by omega) (by omega)]
        | bad h h2 h3 h4 => rw [lexGo_bad _ _ _ _ h h2 h3 h4, lexGo_bad _ _ _ _ h h2 h3 h4]

def shiftT (k : Nat) (t : Tok) : Tok := ⟨t.kind, t.text, t.pos + k⟩
def LexR.shift (k : Nat) : LexR → LexR
  | .ok l => .ok (l.map (shiftT k))
  | .err p e => .err (p + k) e
theorem pre_shift (k : Nat) (a : List Tok) (x : LexR) : (x.pre a).shift k = (x.shift k).pre (a.map (shiftT k)) := by
  cases x with
  | ok l => simp [LexR.pre, LexR.shift]
  | err p e => simp [LexR.pre, LexR.shift]
theorem lexGo_shift (k : Nat) : ∀ (f off : Nat) (l : List UInt8), lexGo f (off + k) l = (lexGo f off l).shift k := by
  intro f
  induction f with
  | zero => intro off l; rfl
  | succ f ih =>
    intro off l
    have comm : ∀ n : Nat, off + k + n = off + n + k := fun n => by omega
    cases l with
    | nil => rw [lexGo_nil, lexGo_nil]; rfl
    | cons c r =>
      cases step1 c with
      | blank h => rw [lexGo_blank _ _ _ _ h, lexGo_blank _ _ _ _ h, comm]; exact ih _ _
      | hash h h2 => rw [lexGo_hash _ _ _ _ h h2, lexGo_hash _ _ _ _ h h2, comm]; exact ih _ _
      | run h h2 h3 =>
        cases h4 : (kindF ((c :: r).takeWhile (fun c => runB (bInt c))) == 0) with
        | true => rw [lexGo_badrun _ _ _ _ h h2 h3 h4, lexGo_badrun _ _ _ _ h h2 h3 h4]; rfl
        | false => rw [lexGo_run _ _ _ _ h h2 h3 h4, lexGo_run _ _ _ _ h h2 h3 h4, comm, ih, pre_shift]; rfl
      | sym h h2 h3 h4 => rw [lexGo_sym _ _ _ _ h h2 h3 h4, lexGo_sym _ _ _ _ h h2 h3 h4, comm, ih, pre_shift]; rfl
      | bad h h2 h3 h4 => rw [lexGo_bad _ _ _ _ h h2 h3 h4, lexGo_bad _ _ _ _ h h2 h3 h4]; rfl

theorem lexGo_app : ∀ (f off : Nat) (a : List UInt8) (ts : List Tok), lexGo f off a = .ok ts → a.length < f →
    ∃ l0, ts = l0 ++ [⟨0, [], off + a.length⟩] ∧ (∀ t ∈ l0, t.kind ≠ 0) ∧ ∀ (b : List UInt8) (g : Nat), a.length + 1 + b.length < g → lexGo g off (a ++ 10 :: b) = (lexGo g (off + a.length + 1) b).pre l0 := by
  intro f
  induction f with
  | zero => intro off a ts _ h; omega
  | succ f ih =>
    intro off a ts h hf
    cases a with
    | nil =>
      rw [lexGo_nil] at h
      cases h
      refine ⟨[], rfl, by simp, fun b g hg => ?_⟩
      cases g with
      | zero => omega
      | succ g =>
        simp only [List.length_nil] at hg
        rw [List.nil_append, lexGo_blank _ _ _ _ (by rfl), pre_nil]
        exact lexGo_fuel _ _ _ _ (by omega) (by omega)
    | cons c r =>
      simp only [List.length_cons] at hf
      cases step1 c with
      | blank hb =>
        rw [lexGo_blank _ _ _ _ hb] at h
        obtain ⟨l0, h1, h2, h3⟩ := ih _ _ _ h (by omega)
        refine ⟨l0, by rw [h1]; simp; omega, h2, fun b g hg => ?_⟩
        cases g with
        | zero => omega
        | succ g =>
          simp only [List.length_cons] at hg
          rw [List.cons_append, lexGo_blank _ _ _ _ hb, h3 b g (by omega), lexGo_fuel g (g + 1) _ b (by omega) (by omega)]
          congr 2
          simp; omega
      | hash hb hh =>
        rw [lexGo_hash _ _ _ _ hb hh] at h
        have hd := dw_lt (fun c => noLf (bInt c)) c r (hash_noLf hh)
        have htd := tw_dw (fun c => noLf (bInt c)) (c :: r)
        obtain ⟨l0, h1, h2, h3⟩ := ih _ _ _ h (by omega)
        simp only [List.length_cons] at htd
        refine ⟨l0, by rw [h1]; congr 3; simp; omega, h2, fun b g hg => ?_⟩
        cases g with
        | zero => omega
        | succ g =>
          simp only [List.length_cons] at hg
          rw [List.cons_append, lexGo_hash _ _ _ _ hb hh, ← List.cons_append, tw_app _ _ _ (by rfl), dw_app _ _ _ (by rfl), h3 b g (by omega), lexGo_fuel g (g + 1) _ b (by omega) (by omega)]
          congr 2
          simp only [List.length_cons]; omega
      | run hb hh hr =>
        cases h4 : (kindF ((c :: r).takeWhile (fun c => runB (bInt c))) == 0) with
        | true => rw [lexGo_badrun _ _ _ _ hb hh hr h4] at h; cases h
        | false =>
          rw [lexGo_run _ _ _ _ hb hh hr h4] at h
          have hd := dw_lt (fun c => runB (bInt c)) c r hr
          have htd := tw_dw (fun c => runB (bInt c)) (c :: r)
          simp only [List.length_cons] at htd
          cases hg : lexGo f (off + ((c :: r).takeWhile (fun c => runB (bInt c))).length) ((c :: r).dropWhile (fun c => runB (bInt c))) with
          | err p e => rw [hg] at h; cases h
          | ok ts' =>
            rw [hg] at h
            cases h
            obtain ⟨l0, h1, h2, h3⟩ := ih _ _ _ hg (by omega)
            refine ⟨⟨kindF ((c :: r).takeWhile (fun c => runB (bInt c))), (c :: r).takeWhile (fun c => runB (bInt c)), off⟩ :: l0, ?_, ?_, fun b g hg => ?_⟩
            · rw [h1, List.singleton_append, List.cons_append, show off + ((c :: r).takeWhile (fun c => runB (bInt c))).length + ((c :: r).dropWhile (fun c => runB (bInt c))).length = off + (c :: r).length from by simp only [List.length_cons]; omega]
            · intro t ht
              rcases List.mem_cons.1 ht with rfl | ht
              · exact beq_eq_false_iff_ne.1 h4
              · exact h2 t ht
            · cases g with
              | zero => omega
              | succ g =>
                simp only [List.length_cons] at hg
                rw [List.cons_append, lexGo_run _ _ _ _ hb hh hr (by rw [← List.cons_append, tw_app _ _ _ (by rfl)]; exact h4), ← List.cons_append, tw_app _ _ _ (by rfl), dw_app _ _ _ (by rfl), h3 b g (by omega), lexGo_fuel g (g + 1) _ b (by omega) (by omega), pre_pre]
                congr 2
                simp only [List.length_cons]; omega
      | sym hb hh hr hs =>
        rw [lexGo_sym _ _ _ _ hb hh hr hs] at h
        cases hg : lexGo f (off + 1) r with
        | err p e => rw [hg] at h; cases h
        | ok ts' =>
          rw [hg] at h
          cases h
          obtain ⟨l0, h1, h2, h3⟩ := ih _ _ _ hg (by omega)
          refine ⟨⟨4, [c], off⟩ :: l0, ?_, ?_, fun b g hg => ?_⟩
          · rw [h1, List.singleton_append, List.cons_append, show off + 1 + r.length = off + (c :: r).length from by simp only [List.length_cons]; omega]
          · intro t ht
            rcases List.mem_cons.1 ht with rfl | ht
            · exact fun e => by cases e
            · exact h2 t ht
          · cases g with
            | zero => omega
            | succ g =>
              simp only [List.length_cons] at hg
              rw [List.cons_append, lexGo_sym _ _ _ _ hb hh hr hs, h3 b g (by omega), lexGo_fuel g (g + 1) _ b (by omega) (by omega), pre_pre]
              congr 2
              simp only [List.length_cons]; omega
      | bad hb hh hr hs => rw [lexGo_bad _ _ _ _ hb hh hr hs] at h; cases h

/-- the tokens of an accepted text: all but the last have a kind, the last is the end -/
theorem lexF_ok {a : List UInt8} {ts : List Tok} (h : lexF a = .ok ts) : a.length ≤ 16384 ∧ ∃ l0, ts = l0 ++ [⟨0, [], a.length⟩] ∧ (∀ t ∈ l0, t.kind ≠ 0) ∧
    ∀ b : List UInt8, a.length + 1 + b.length ≤ 16384 → lexF (a ++ 10 :: b) = ((lexF b).shift (a.length + 1)).pre l0 := by
  unfold lexF at h
  split at h
  · cases h
  · rename_i hl
    obtain ⟨l0, h1, h2, h3⟩ := lexGo_app _ _ _ _ h (by omega)
    refine ⟨by omega, l0, by simpa using h1, h2, fun b hb => ?_⟩
    unfold lexF
    rw [if_neg (by simp; omega), if_neg (by omega), h3 b _ (by simp; omega), lexGo_fuel _ (b.length + 1) _ b (by simp; omega) (by omega), ← lexGo_shift, Nat.zero_add, Nat.zero_add]

/-- the kind of a token goes by its text -/
def goodT (t : Tok) : Prop := t.kind ≠ 0 → t.kind ≠ 4 → kindF t.text = t.kind
theorem lexGo_good : ∀ (f off : Nat) (l : List UInt8) (ts : List Tok), lexGo f off l = .ok ts → ∀ t ∈ ts, goodT t := by
  intro f
  induction f with
  | zero => intro off l ts h; cases h
  | succ f ih =>
    intro off l ts h
    cases l with
    | nil =>
      rw [lexGo_nil] at h
      cases h
      intro t ht hk
      rw [List.mem_singleton] at ht
      subst ht
      exact absurd rfl hk
    | cons c r =>
      cases step1 c with
      | blank hb => rw [lexGo_blank _ _ _ _ hb] at h; exact ih _ _ _ h
      | hash hb hh => rw [lexGo_hash _ _ _ _ hb hh] at h; exact ih _ _ _ h
      | run hb hh hr =>
        cases hk : (kindF ((c :: r).takeWhile (fun c => runB (bInt c))) == 0) with
        | true => rw [lexGo_badrun _ _ _ _ hb hh hr hk] at h; cases h
        | false =>
          rw [lexGo_run _ _ _ _ hb hh hr hk] at h
          cases hg : lexGo f (off + ((c :: r).takeWhile (fun c => runB (bInt c))).length) ((c :: r).dropWhile (fun c => runB (bInt c))) with
          | err p e => rw [hg] at h; cases h
          | ok ts' =>
            rw [hg] at h
            cases h
            intro t ht
            rcases List.mem_cons.1 ht with rfl | ht
            · intro _ _; rfl
            · exact ih _ _ _ hg t ht
      | sym hb hh hr hs =>
        rw [lexGo_sym _ _ _ _ hb hh hr hs] at h
        cases hg : lexGo f (off + 1) r with
        | err p e => rw [hg] at h; cases h
        | ok ts' =>
          rw [hg] at h
          cases h
          intro t ht
          rcases List.mem_cons.1 ht with rfl | ht
          · intro _ h4; exact absurd rfl h4
          · exact ih _ _ _ hg t ht
      | bad hb hh hr hs => rw [lexGo_bad _ _ _ _ hb hh hr hs] at h; cases h
theorem lexF_good {l : List UInt8} {ts : List Tok} (h : lexF l = .ok ts) : ∀ t ∈ ts, goodT t := by
  unfold lexF at h
  split at h
  · cases h
  · exact lexGo_good _ _ _ _ h
end Go.Proofs.YtmpdnmnimdkfnaaDoor
