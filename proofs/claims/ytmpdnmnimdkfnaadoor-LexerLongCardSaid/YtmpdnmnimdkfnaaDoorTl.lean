/- Plain laws of the lexer: what its tokens are; tokens are recovered from their joined text; they cover the text. -/
import Derived.Test.YtmpdnmnimdkfnaaDoorLx
import Derived.Lib.Join
namespace Go.Proofs.YtmpdnmnimdkfnaaDoor

theorem dw_lt' {α : Type} (p : α → Bool) (c : α) (r : List α) (h : p c = true) : ((c :: r).dropWhile p).length ≤ r.length := by
  rw [List.dropWhile_cons_of_pos h]; exact (List.dropWhile_sublist p).length_le
theorem tw_dw' {α : Type} (p : α → Bool) (l : List α) : (l.takeWhile p).length + (l.dropWhile p).length = l.length := by
  rw [← List.length_append, List.takeWhile_append_dropWhile]
theorem tw_all {α : Type} (p : α → Bool) : ∀ (l : List α), ∀ x ∈ l.takeWhile p, p x = true
  | [], x, h => by cases h
  | a :: l, x, h => by
    cases hp : p a with
    | false => rw [List.takeWhile_cons_of_neg (by simp [hp])] at h; cases h
    | true =>
      rw [List.takeWhile_cons_of_pos hp] at h
      rcases List.mem_cons.1 h with rfl | h
      · exact hp
      · exact tw_all p l x h
theorem dw_head {α : Type} (p : α → Bool) : ∀ (l : List α) (x : α) (r : List α), l.dropWhile p = x :: r → p x = false
  | [], x, r, h => by cases h
  | a :: l, x, r, h => by
    cases hp : p a with
    | true => rw [List.dropWhile_cons_of_pos hp] at h; exact dw_head p l x r h
    | false => rw [List.dropWhile_cons_of_neg (by simp [hp])] at h; cases h; exact hp
/-- the cases of one step -/
inductive Step2 (c : UInt8) : Prop where
  | blank (h : blankB (bInt c) = true)
  | hash (h : blankB (bInt c) = false) (h2 : (bInt c == 35) = true)
  | run (h : blankB (bInt c) = false) (h2 : (bInt c == 35) = false) (h3 : runB (bInt c) = true)
  | sym (h : blankB (bInt c) = false) (h2 : (bInt c == 35) = false) (h3 : runB (bInt c) = false) (h4 : symB (bInt c) = true)
  | bad (h : blankB (bInt c) = false) (h2 : (bInt c == 35) = false) (h3 : runB (bInt c) = false) (h4 : symB (bInt c) = false)
theorem step2 (c : UInt8) : Step2 c := by
  cases h : blankB (bInt c) with
  | true => exact .blank h
  | false =>
    cases h2 : (bInt c == 35) with
    | true => exact .hash h h2
    | false =>
      cases h3 : runB (bInt c) with
      | true => exact .run h h2 h3
      | false =>
        cases h4 : symB (bInt c) with
        | true => exact .sym h h2 h3 h4
        | false => exact .bad h h2 h3 h4
theorem pre_ok {a ts : List Tok} {x : LexR} (h : x.pre a = .ok ts) : ∃ t', x = .ok t' ∧ ts = a ++ t' := by
  cases x with
  | ok l => simp only [LexR.pre, LexR.ok.injEq] at h; exact ⟨l, rfl, h.symm⟩
  | err p e => simp [LexR.pre] at h

def TokWf (t : Tok) : Prop :=
  t.kind ≠ 0 ∧ ((t.kind = kindF t.text ∧ t.text ≠ [] ∧ ∀ c ∈ t.text, runB (bInt c) = true) ∨ (t.kind = 4 ∧ ∃ c, t.text = [c] ∧ symB (bInt c) = true))
def lens (l : List Tok) : Nat := (l.map fun t => t.text.length).sum
theorem lexGo_wf : ∀ (f off : Nat) (l : List UInt8) (ts : List Tok), lexGo f off l = .ok ts → l.length < f →
    ∃ l0, ts = l0 ++ [⟨0, [], off + l.length⟩] ∧ (∀ t ∈ l0, TokWf t) ∧ lens l0 ≤ l.length := by
  intro f
  induction f with
  | zero => intro off l ts _ h; omega
  | succ f ih =>
    intro off l ts h hf
    cases l with
    | nil => rw [lexGo_nil] at h; cases h; exact ⟨[], rfl, by simp, Nat.zero_le _⟩
    | cons c r =>
      simp only [List.length_cons] at hf
      cases step2 c with
      | blank h1 =>
        rw [lexGo_blank _ _ _ _ h1] at h
        obtain ⟨l0, rfl, h2, h3⟩ := ih _ _ _ h (by omega)
        exact ⟨l0, by simp; omega, h2, by simp; omega⟩
      | hash h1 h2 =>
        rw [lexGo_hash _ _ _ _ h1 h2] at h
        have hp : noLf (bInt c) = true := by rw [beq_iff_eq] at h2; rw [h2]; rfl
        have hd := dw_lt' (fun c => noLf (bInt c)) c r hp
        have ht := tw_dw' (fun c => noLf (bInt c)) (c :: r)
        obtain ⟨l0, rfl, h4, h5⟩ := ih _ _ _ h (by omega)
        simp only [List.length_cons] at ht
        exact ⟨l0, by simp; omega, h4, by simp; omega⟩
      | run h1 h2 h3 =>
        have hd := dw_lt' (fun c => runB (bInt c)) c r h3
        have ht := tw_dw' (fun c => runB (bInt c)) (c :: r)
        simp only [List.length_cons] at ht
        cases h4 : (kindF ((c :: r).takeWhile (fun c => runB (bInt c))) == 0) with
        | true => rw [lexGo_badrun _ _ _ _ h1 h2 h3 h4] at h; cases h
        | false =>
          rw [lexGo_run _ _ _ _ h1 h2 h3 h4] at h
          obtain ⟨t', hx, rfl⟩ := pre_ok h
          obtain ⟨l0, rfl, h5, h6⟩ := ih _ _ _ hx (by omega)
          refine ⟨⟨kindF ((c :: r).takeWhile (fun c => runB (bInt c))), (c :: r).takeWhile (fun c => runB (bInt c)), off⟩ :: l0, by rw [show off + ((c :: r).takeWhile (fun c => runB (bInt c))).length + ((c :: r).dropWhile (fun c => runB (bInt c))).length = off + (c :: r).length from by simp only [List.length_cons]; omega]; rfl, ?_, by unfold lens at *; simp only [List.map_cons, List.sum_cons, List.length_cons]; omega⟩
          intro t htm
          rcases List.mem_cons.1 htm with rfl | htm
          · exact ⟨beq_eq_false_iff_ne.1 h4, Or.inl ⟨rfl, by show (c :: r).takeWhile (fun c => runB (bInt c)) ≠ []; rw [List.takeWhile_cons_of_pos (p := fun c => runB (bInt c)) h3]; simp, tw_all _ _⟩⟩
          · exact h5 t htm
      | sym h1 h2 h3 h4 =>
        rw [lexGo_sym _ _ _ _ h1 h2 h3 h4] at h
        obtain ⟨t', hx, rfl⟩ := pre_ok h
        obtain ⟨l0, rfl, h5, h6⟩ := ih _ _ _ hx (by omega)
        refine ⟨⟨4, [c], off⟩ :: l0, by simp; omega, ?_, by unfold lens at *; simp only [List.map_cons, List.sum_cons, List.length_cons, List.length_nil]; omega⟩
        intro t htm
        rcases List.mem_cons.1 htm with rfl | htm
        · exact ⟨by show (4 : Int) ≠ 0; decide, Or.inr ⟨rfl, c, rfl, h4⟩⟩
        · exact h5 t htm
      | bad h1 h2 h3 h4 => rw [lexGo_bad _ _ _ _ h1 h2 h3 h4] at h; cases h
theorem wf_pos {t : Tok} (h : TokWf t) : 1 ≤ t.text.length := by
  rcases h.2 with ⟨_, h, _⟩ | ⟨_, c, h, _⟩
  · exact List.length_pos_iff.2 h
  · rw [h]; simp
theorem lens_len : ∀ (l : List Tok), (∀ t ∈ l, TokWf t) → l.length ≤ lens l
  | [], _ => Nat.le_refl _
  | t :: l, h => by
    have h1 := lens_len l fun x hx => h x (List.mem_cons_of_mem _ hx)
    have h2 := wf_pos (h t List.mem_cons_self)
    unfold lens at *
    simp only [List.map_cons, List.sum_cons, List.length_cons]
    omega
theorem lexF_wf {l : List UInt8} {ts : List Tok} (h : lexF l = .ok ts) : ∃ l0, ts = l0 ++ [⟨0, [], l.length⟩] ∧ (∀ t ∈ l0, TokWf t) ∧ lens l0 ≤ l.length ∧ ts.length ≤ l.length + 1 := by
  unfold lexF at h
  split at h
  · cases h
  obtain ⟨l0, h1, h2, h3⟩ := lexGo_wf _ _ _ _ h (by omega)
  refine ⟨l0, by simpa using h1, h2, h3, ?_⟩
  have := lens_len l0 h2
  rw [h1]
  simp
  omega

/-- the joined text of tokens -/
def joinT (l : List Tok) : List UInt8 := Lib.join (l.map (·.text)) [32]
theorem joinT_len : ∀ (l : List Tok), (joinT l).length ≤ lens l + l.length
  | [] => by simp [joinT, Lib.join_nil]
  | t :: l => by
    unfold joinT lens
    rw [List.map_cons, Lib.join_cons]
    have : ∀ xs : List (List UInt8), (Lib.joinTail [32] xs).length ≤ (xs.map List.length).sum + xs.length := by
      intro xs
      induction xs with
      | nil => simp [Lib.joinTail]
      | cons x xs ih => unfold Lib.joinTail at *; simp at ih ⊢; omega
    have h := this (l.map (·.text))
    rw [List.map_map] at h
    simp only [List.length_append, List.map_cons, List.sum_cons, List.length_cons, List.length_map] at h ⊢
    have e : (List.length ∘ fun t : Tok => t.text) = fun t => t.text.length := rfl
    rw [e] at h
    omega
def tkey (t : Tok) : Int × List UInt8 := (t.kind, t.text)
theorem tail_cons (t : Tok) (l : List Tok) : Lib.joinTail [32] ((t :: l).map (·.text)) = 32 :: joinT (t :: l) := by
  unfold joinT
  rw [List.map_cons, Lib.join_cons]
  simp [Lib.joinTail]
theorem tw_stop {α : Type} (p : α → Bool) : ∀ (a b : List α), (∀ x ∈ a, p x = true) → (b = [] ∨ ∃ y r, b = y :: r ∧ p y = false) → (a ++ b).takeWhile p = a ∧ (a ++ b).dropWhile p = b
  | [], b, _, hb => by
    rcases hb with rfl | ⟨y, r, rfl, hy⟩
    · exact ⟨rfl, rfl⟩
    · exact ⟨by rw [List.nil_append, List.takeWhile_cons_of_neg (by simp [hy])], by rw [List.nil_append, List.dropWhile_cons_of_neg (by simp [hy])]⟩
  | x :: a, b, ha, hb => by
    obtain ⟨h1, h2⟩ := tw_stop p a b (fun z hz => ha z (List.mem_cons_of_mem _ hz)) hb
    have hx := ha x List.mem_cons_self
    exact ⟨by rw [List.cons_append, List.takeWhile_cons_of_pos hx, h1], by rw [List.cons_append, List.dropWhile_cons_of_pos hx, h2]⟩
theorem run_not_blank {n : Int} (h : runB n = true) : blankB n = false ∧ (n == 35) = false := by
  unfold runB lowerB upperB digitB at h
  unfold blankB
  simp at h ⊢
  omega
theorem sym_not_blank {n : Int} (h : symB n = true) : blankB n = false ∧ (n == 35) = false := by
  unfold symB at h
  unfold blankB
  simp at h ⊢
  omega
theorem lexGo_join : ∀ (l : List Tok), (∀ t ∈ l, TokWf t) → ∀ (f off : Nat), (joinT l).length < f →
    ∃ l', lexGo f off (joinT l) = .ok (l' ++ [⟨0, [], off + (joinT l).length⟩]) ∧ l'.map tkey = l.map tkey
  | [], _, f, off, hf => by
    cases f with
    | zero => simp at hf
    | succ f => exact ⟨[], by rw [show joinT [] = [] from rfl, lexGo_nil]; rfl, rfl⟩
  | t :: l, hw, f, off, hf => by
    have ht := hw t List.mem_cons_self
    have hl := fun x hx => hw x (List.mem_cons_of_mem t hx)
    -- what follows the first token's text
    have hrest : ∃ rest, joinT (t :: l) = t.text ++ rest ∧ (rest = [] ∨ ∃ y r, rest = y :: r ∧ runB (bInt y) = false) ∧
        ∀ (g o : Nat), rest.length < g → ∃ l', lexGo g o rest = .ok (l' ++ [⟨0, [], o + rest.length⟩]) ∧ l'.map tkey = l.map tkey := by
      cases l with
      | nil =>
        refine ⟨[], by unfold joinT; rw [List.map_cons, Lib.join_cons]; rfl, Or.inl rfl, fun g o hg => ?_⟩
        cases g with
        | zero => simp at hg
        | succ g => exact ⟨[], by rw [lexGo_nil]; rfl, rfl⟩
      | cons u l =>
        refine ⟨32 :: joinT (u :: l), ?_, Or.inr ⟨32, _, rfl, rfl⟩, fun g o hg => ?_⟩
        · rw [← tail_cons]; unfold joinT; rw [List.map_cons, Lib.join_cons]
        cases g with
        | zero => simp at hg
        | succ g =>
          rw [lexGo_blank _ _ _ _ (by rfl)]
          obtain ⟨l', h1, h2⟩ := lexGo_join (u :: l) hl g (o + 1) (by simpa using hg)
          exact ⟨l', by rw [h1]; simp; omega, h2⟩
    obtain ⟨rest, he, hst, hgo⟩ := hrest
    rw [he] at hf ⊢
    have hpos := wf_pos ht
    cases f with
    | zero => simp at hf
    | succ f =>
      obtain ⟨l', hgo1, hk1⟩ := hgo f (off + t.text.length) (by rw [List.length_append] at hf; omega)
      rcases ht.2 with ⟨hkd, hne, hrun⟩ | ⟨hkd, c, htx, hsy⟩
      · obtain ⟨htw, hdw⟩ := tw_stop (fun c => runB (bInt c)) t.text rest hrun hst
        cases htx : t.text with
        | nil => exact absurd htx hne
        | cons c r =>
          have hc : runB (bInt c) = true := hrun c (by rw [htx]; exact List.mem_cons_self)
          obtain ⟨hb1, hb2⟩ := run_not_blank hc
          rw [htx] at htw hdw hgo1
          rw [List.cons_append] at htw hdw
          refine ⟨⟨t.kind, c :: r, off⟩ :: l', ?_, ?_⟩
          · rw [List.cons_append, lexGo_run _ _ _ _ hb1 hb2 hc (by rw [htw, ← htx, ← hkd]; exact beq_eq_false_iff_ne.2 ht.1), htw, hdw, hgo1]
            rw [show kindF (c :: r) = t.kind from by rw [hkd, htx]]
            simp only [LexR.pre, List.cons_append, List.nil_append, List.length_cons, List.length_append]
            rw [show off + (r.length + 1) + rest.length = off + (r.length + rest.length + 1) from by omega]
          · simp only [List.map_cons, hk1]; unfold tkey; rw [htx]
      · rw [htx] at hgo1 ⊢
        obtain ⟨hb1, hb2⟩ := sym_not_blank hsy
        refine ⟨⟨4, [c], off⟩ :: l', ?_, ?_⟩
        · rw [List.cons_append, List.nil_append, lexGo_sym _ _ _ _ hb1 hb2 (sym_not_run _ hsy) hsy]
          simp only [List.length_cons, List.length_nil, Nat.zero_add] at hgo1
          rw [hgo1]
          simp only [LexR.pre, List.cons_append, List.nil_append, List.length_cons]
          congr 3
          simp only [Tok.mk.injEq, true_and, List.cons.injEq, and_true]
          omega
        · simp only [List.map_cons, hk1]; unfold tkey; rw [htx, hkd]
theorem pre_err {a : List Tok} {x : LexR} {p : Nat} {e : Int} (h : x.pre a = .err p e) : x = .err p e := by
  cases x with
  | ok l => simp [LexR.pre] at h
  | err q f => simpa [LexR.pre] using h
theorem lexGo_nz : ∀ (f off : Nat) (l : List UInt8) (p : Nat) (e : Int), lexGo f off l = .err p e → e ≠ 0 := by
  intro f
  induction f with
  | zero => intro off l p e h; unfold lexGo at h; cases h; decide
  | succ f ih =>
    intro off l p e h
    cases l with
    | nil => rw [lexGo_nil] at h; cases h
    | cons c r =>
      cases step2 c with
      | blank h1 => rw [lexGo_blank _ _ _ _ h1] at h; exact ih _ _ _ _ h
      | hash h1 h2 => rw [lexGo_hash _ _ _ _ h1 h2] at h; exact ih _ _ _ _ h
      | run h1 h2 h3 =>
        cases h4 : (kindF ((c :: r).takeWhile (fun c => runB (bInt c))) == 0) with
        | true => rw [lexGo_badrun _ _ _ _ h1 h2 h3 h4] at h; cases h; decide
        | false => rw [lexGo_run _ _ _ _ h1 h2 h3 h4] at h; exact ih _ _ _ _ (pre_err h)
      | sym h1 h2 h3 h4 => rw [lexGo_sym _ _ _ _ h1 h2 h3 h4] at h; exact ih _ _ _ _ (pre_err h)
      | bad h1 h2 h3 h4 => rw [lexGo_bad _ _ _ _ h1 h2 h3 h4] at h; cases h; decide
theorem lexF_nz {l : List UInt8} {p : Nat} {e : Int} (h : lexF l = .err p e) : e ≠ 0 := by
  unfold lexF at h
  split at h
  · cases h; decide
  · exact lexGo_nz _ _ _ _ _ h
end Go.Proofs.YtmpdnmnimdkfnaaDoor
