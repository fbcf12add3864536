/- The plain functions of the parser (no program in sight). -/
import Derived.Test.YtmpdnmnimdkfnaaDoorLx
namespace Go.Proofs.YtmpdnmnimdkfnaaDoor

/-- a term: a name and arguments -/
inductive Tm where
  | mk (name : List UInt8) (args : List Tm)
structure Li where
  neg : Bool
  atom : Tm
structure Ru where
  head : Tm
  body : List Li

/-- what reading from tokens gives: a value and the tokens that are left, or the first violation -/
inductive PR (α : Type) where
  | ok (v : α) (rest : List Tok)
  | err (pos : Nat) (e : Int)

def hd (ts : List Tok) : Tok := ts.headD ⟨0, [], 0⟩
def isT (ts : List Tok) (s : List UInt8) : Bool := ((hd ts).kind == 4 || (hd ts).kind == 5) && (hd ts).text == s
def begT (ts : List Tok) : Bool := (hd ts).kind == 1 || (hd ts).kind == 2 || (hd ts).kind == 3
def failT {α : Type} (ts : List Tok) (e : Int) : PR α := .err (hd ts).pos e

def argsF (tf : List Tok → PR Tm) : Nat → List Tm → List Tok → PR (List Tm)
  | 0, _, ts => failT ts 1
  | n + 1, acc, ts =>
    if (acc.length == 4 && begT ts) then failT ts 5
    else match tf ts with
      | .err p e => .err p e
      | .ok t ts' =>
        if isT ts' [44] then argsF tf n (acc ++ [t]) ts'.tail
        else if isT ts' [41] then .ok (acc ++ [t]) ts'.tail
        else failT ts' 1

def compF (tf : List Tok → PR Tm) (ts : List Tok) : PR Tm :=
  if isT ts.tail [40] then
    match argsF tf 5 [] ts.tail.tail with
    | .err p e => .err p e
    | .ok l ts' => .ok (.mk (hd ts).text l) ts'
  else .ok (.mk (hd ts).text []) ts.tail

def termF : Nat → List Tok → PR Tm
  | 0, ts => if begT ts then failT ts 3 else failT ts 1
  | d + 1, ts => if begT ts then (if (hd ts).kind == 1 then compF (termF d) ts else .ok (.mk (hd ts).text []) ts.tail) else failT ts 1

def atomF (ts : List Tok) : PR Tm := if (hd ts).kind == 1 then compF (termF 3) ts else failT ts 1

def litF (others : Nat) (ts : List Tok) : PR Li :=
  if (others == 8 && (isT ts [110, 111, 116] || (hd ts).kind == 1)) then failT ts 2
  else if isT ts [110, 111, 116] then (match atomF ts.tail with | .err p e => .err p e | .ok t r => .ok ⟨true, t⟩ r)
  else (match atomF ts with | .err p e => .err p e | .ok t r => .ok ⟨false, t⟩ r)

def bodyF : Nat → List Li → List Tok → PR (List Li)
  | 0, _, ts => failT ts 1
  | n + 1, acc, ts =>
    match litF acc.length ts with
    | .err p e => .err p e
    | .ok l ts' => if isT ts' [97, 110, 100] then bodyF n (acc ++ [l]) ts'.tail else .ok (acc ++ [l]) ts'

def ruleF (ts : List Tok) : PR Ru :=
  match atomF ts with
  | .err p e => .err p e
  | .ok h ts1 =>
    match (if isT ts1 [105, 102] then bodyF 9 [] ts1.tail else .ok [] ts1) with
    | .err p e => .err p e
    | .ok b ts2 => if isT ts2 [46] then .ok ⟨h, b⟩ ts2.tail else failT ts2 1

def rulesF : Nat → List Ru → List Tok → PR (List Ru)
  | 0, _, ts => failT ts 1
  | n + 1, acc, ts =>
    if (hd ts).kind == 0 then .ok acc ts
    else if (acc.length == 128 && (hd ts).kind == 1) then failT ts 2
    else match ruleF ts with
      | .err p e => .err p e
      | .ok r ts' => rulesF n (acc ++ [r]) ts'

def termsGo : Nat → List Tm → List Tok → PR (List Tm)
  | 0, _, ts => failT ts 1
  | n + 1, acc, ts =>
    match termF 4 ts with
    | .err p e => .err p e
    | .ok t ts' => if isT ts' [44] then termsGo n (acc ++ [t]) ts'.tail else .ok (acc ++ [t]) ts'
def termsF (ts : List Tok) : PR (List Tm) := if (hd ts).kind == 0 then .ok [] ts else termsGo ts.length [] ts

/-- what reading a whole text gives -/
inductive Rs (α : Type) where
  | ok (v : α)
  | err (pos : Nat) (e : Int)

def endF {α : Type} : PR α → Rs α
  | .err p e => .err p e
  | .ok v r => if (hd r).kind == 0 then .ok v else .err (hd r).pos 1
def readF {α : Type} (pf : List Tok → PR α) (l : List UInt8) : Rs α :=
  match lexF l with
  | .err p e => .err p e
  | .ok ts => endF (pf ts)

def parseF (l : List UInt8) : Rs (List Ru) := readF (rulesF 129 []) l
def ruleRF (l : List UInt8) : Rs Ru := readF ruleF l
def termRF (l : List UInt8) : Rs Tm := readF (termF 4) l
def termsRF (l : List UInt8) : Rs (List Tm) := readF termsF l

/-- the last token is the end -/
def EndL : List Tok → Prop
  | [] => False
  | [t] => t.kind = 0
  | _ :: t :: r => EndL (t :: r)
theorem EndL.tail {t : Tok} {r : List Tok} (h : EndL (t :: r)) (hk : t.kind ≠ 0) : EndL r := by
  cases r with
  | nil => exact absurd h hk
  | cons a r => exact h
theorem EndL.ne {ts : List Tok} (h : EndL ts) : ts ≠ [] := by
  rintro rfl; exact h
theorem EndL.append {a b : List Tok} (h : EndL b) : EndL (a ++ b) := by
  induction a with
  | nil => exact h
  | cons x a ih =>
    cases hab : a ++ b with
    | nil => rw [hab] at ih; exact ih.elim
    | cons y r => rw [hab] at ih; rw [List.cons_append, hab]; exact ih
theorem EndL.hdtail {ts : List Tok} (h : EndL ts) (hk : (hd ts).kind ≠ 0) : EndL ts.tail := by
  cases ts with
  | nil => exact h.elim
  | cons t r => exact h.tail hk
theorem lexGo_end : ∀ (f off : Nat) (l : List UInt8) (ts : List Tok), lexGo f off l = .ok ts → EndL ts := by
  intro f
  induction f with
  | zero => intro off l ts h; cases h
  | succ f ih =>
    intro off l ts h
    cases l with
    | nil => rw [lexGo_nil] at h; cases h; exact rfl
    | cons c r =>
      cases hb : blankB (bInt c) with
      | true => rw [lexGo_blank _ _ _ _ hb] at h; exact ih _ _ _ h
      | false =>
        cases hh : (bInt c == 35) with
        | true => rw [lexGo_hash _ _ _ _ hb hh] at h; exact ih _ _ _ h
        | false =>
          cases hr : runB (bInt c) with
          | true =>
            cases hk : (kindF ((c :: r).takeWhile (fun c => runB (bInt c))) == 0) with
            | true => rw [lexGo_badrun _ _ _ _ hb hh hr hk] at h; cases h
            | false =>
              rw [lexGo_run _ _ _ _ hb hh hr hk] at h
              cases hg : lexGo f (off + ((c :: r).takeWhile (fun c => runB (bInt c))).length) ((c :: r).dropWhile (fun c => runB (bInt c))) with
              | ok ts' => rw [hg] at h; cases h; exact (ih _ _ _ hg).append
              | err p e => rw [hg] at h; cases h
          | false =>
            cases hs : symB (bInt c) with
            | true =>
              rw [lexGo_sym _ _ _ _ hb hh hr hs] at h
              cases hg : lexGo f (off + 1) r with
              | ok ts' => rw [hg] at h; cases h; exact (ih _ _ _ hg).append
              | err p e => rw [hg] at h; cases h
            | false => rw [lexGo_bad _ _ _ _ hb hh hr hs] at h; cases h
theorem lexF_end {l : List UInt8} {ts : List Tok} (h : lexF l = .ok ts) : EndL ts := by
  unfold lexF at h
  split at h
  · cases h
  · exact lexGo_end _ _ _ _ h
theorem isT_kind {ts : List Tok} {s : List UInt8} (h : isT ts s = true) : (hd ts).kind ≠ 0 := by
  unfold isT at h
  simp only [Bool.and_eq_true, Bool.or_eq_true, beq_iff_eq] at h
  omega
theorem begT_kind {ts : List Tok} (h : begT ts = true) : (hd ts).kind ≠ 0 := by
  unfold begT at h
  simp only [Bool.or_eq_true, beq_iff_eq] at h
  omega
end Go.Proofs.YtmpdnmnimdkfnaaDoor
