/- Merged texts: The plain functions of the lexer and of names (no program in sight), and small lemmas on lists of bytes. The plain functions of the parser (no program in sight). Small helpers for the walks: equal results, cells behind 'Below', strings cut and joined. What terms, literals, rules and lists of them look like in memory. -/
import GoSem.Core.World
import Derived.WalkKit
import Derived.WalkLawsBesides
import Derived.WalkSpells
import Derived.Lib.Hide
import Derived.Deep.AppendLies
import Derived.OwnWalk
namespace Go.Proofs.YtmplpbdldcokjaaGreatDoor
/- The plain functions of the lexer and of names (no program in sight), and small lemmas on lists of bytes. -/
section

/-- the bytes of a text as a string of the model -/
def bs (l : List UInt8) : ByteArray := ⟨l.toArray⟩

def lowerB (n : Int) : Bool := decide (97 ≤ n) && decide (n ≤ 122)
def upperB (n : Int) : Bool := decide (65 ≤ n) && decide (n ≤ 90)
def digitB (n : Int) : Bool := decide (48 ≤ n) && decide (n ≤ 57)
def runB (n : Int) : Bool := lowerB n || upperB n || digitB n || n == 45
def blankB (n : Int) : Bool := n == 32 || n == 9 || n == 10 || n == 13
def symB (n : Int) : Bool := n == 40 || n == 41 || n == 44 || n == 46
def noLf (n : Int) : Bool := !(n == 10)

def bInt (c : UInt8) : Int := (c.toNat : Int)

/-- the reserved words -/
def wordF (l : List UInt8) : Bool := l == [105, 102] || l == [97, 110, 100] || l == [110, 111, 116]
def nameCh (n : Int) : Bool := lowerB n || digitB n || n == 45
def varCh (n : Int) : Bool := lowerB n || upperB n || digitB n
def nameF (l : List UInt8) : Bool :=
  decide (1 ≤ l.length) && decide (l.length ≤ 16) && lowerB (bInt (l.headD 0)) && l.all (fun c => nameCh (bInt c)) && !wordF l
def varF (l : List UInt8) : Bool :=
  decide (1 ≤ l.length) && decide (l.length ≤ 16) && upperB (bInt (l.headD 0)) && l.all (fun c => varCh (bInt c))
def numF (l : List UInt8) : Bool :=
  decide (1 ≤ l.length) && decide (l.length ≤ 4) && !(decide (1 < l.length) && bInt (l.headD 0) == 48) && l.all (fun c => digitB (bInt c))
def valF (l : List UInt8) : Int := l.foldl (fun n c => 10 * n + (bInt c - 48)) 0
def kindF (l : List UInt8) : Int :=
  if wordF l then 5 else if nameF l then 1 else if numF l then 2 else if varF l then 3 else 0

structure Tok where
  kind : Int
  text : List UInt8
  pos : Nat

inductive LexR where
  | ok (l : List Tok)
  | err (pos : Nat) (e : Int)

def LexR.pre (acc : List Tok) : LexR → LexR
  | .ok l => .ok (acc ++ l)
  | .err p e => .err p e

def lexGo : Nat → Nat → List UInt8 → LexR
  | 0, off, _ => .err off 1
  | _ + 1, off, [] => .ok [⟨0, [], off⟩]
  | f + 1, off, c :: r =>
    if blankB (bInt c) then lexGo f (off + 1) r
    else if bInt c == 35 then lexGo f (off + ((c :: r).takeWhile (fun c => noLf (bInt c))).length) ((c :: r).dropWhile (fun c => noLf (bInt c)))
    else if runB (bInt c) then
      (if kindF ((c :: r).takeWhile (fun c => runB (bInt c))) == 0 then .err off 4
       else (lexGo f (off + ((c :: r).takeWhile (fun c => runB (bInt c))).length) ((c :: r).dropWhile (fun c => runB (bInt c)))).pre
        [⟨kindF ((c :: r).takeWhile (fun c => runB (bInt c))), (c :: r).takeWhile (fun c => runB (bInt c)), off⟩])
    else if symB (bInt c) then (lexGo f (off + 1) r).pre [⟨4, [c], off⟩]
    else .err off 1

/-- what Lex gives -/
def lexF (l : List UInt8) : LexR := if 16384 < l.length then .err 0 2 else lexGo (l.length + 1) 0 l

theorem pre_pre (a b : List Tok) (x : LexR) : (x.pre b).pre a = x.pre (a ++ b) := by cases x <;> simp [LexR.pre]
theorem pre_nil (x : LexR) : x.pre [] = x := by cases x <;> simp [LexR.pre]

theorem digitB_iff (n : Int) : digitB n = true ↔ 48 ≤ n ∧ n ≤ 57 := by unfold digitB; rw [Bool.and_eq_true, decide_eq_true_eq, decide_eq_true_eq]
theorem lowerB_iff (n : Int) : lowerB n = true ↔ 97 ≤ n ∧ n ≤ 122 := by unfold lowerB; rw [Bool.and_eq_true, decide_eq_true_eq, decide_eq_true_eq]
theorem upperB_iff (n : Int) : upperB n = true ↔ 65 ≤ n ∧ n ≤ 90 := by unfold upperB; rw [Bool.and_eq_true, decide_eq_true_eq, decide_eq_true_eq]
theorem digitB_no {n : Int} (h : ¬ digitB n = true) : n < 48 ∨ 57 < n := by rw [digitB_iff] at h; omega
theorem bInt_lo (c : UInt8) : 0 ≤ bInt c := by unfold bInt; omega
theorem bInt_hi (c : UInt8) : bInt c ≤ 255 := by unfold bInt; have := c.toNat_lt; omega


theorem lexGo_nil (f off : Nat) : lexGo (f + 1) off [] = .ok [⟨0, [], off⟩] := rfl
theorem lexGo_blank (f off : Nat) (c : UInt8) (r : List UInt8) (h : blankB (bInt c) = true) : lexGo (f + 1) off (c :: r) = lexGo f (off + 1) r := by
  rw [lexGo, if_pos h]
theorem lexGo_hash (f off : Nat) (c : UInt8) (r : List UInt8) (h : blankB (bInt c) = false) (h2 : (bInt c == 35) = true) :
    lexGo (f + 1) off (c :: r) = lexGo f (off + ((c :: r).takeWhile (fun c => noLf (bInt c))).length) ((c :: r).dropWhile (fun c => noLf (bInt c))) := by
  rw [lexGo, if_neg (by rw [h]; exact Bool.false_ne_true), if_pos h2]
theorem lexGo_run (f off : Nat) (c : UInt8) (r : List UInt8) (h : blankB (bInt c) = false) (h2 : (bInt c == 35) = false) (h3 : runB (bInt c) = true) (h4 : (kindF ((c :: r).takeWhile (fun c => runB (bInt c))) == 0) = false) :
    lexGo (f + 1) off (c :: r) = (lexGo f (off + ((c :: r).takeWhile (fun c => runB (bInt c))).length) ((c :: r).dropWhile (fun c => runB (bInt c)))).pre
        [⟨kindF ((c :: r).takeWhile (fun c => runB (bInt c))), (c :: r).takeWhile (fun c => runB (bInt c)), off⟩] := by
  rw [lexGo, if_neg (by rw [h]; exact Bool.false_ne_true), if_neg (by rw [h2]; exact Bool.false_ne_true), if_pos h3, if_neg (by rw [h4]; exact Bool.false_ne_true)]
theorem lexGo_badrun (f off : Nat) (c : UInt8) (r : List UInt8) (h : blankB (bInt c) = false) (h2 : (bInt c == 35) = false) (h3 : runB (bInt c) = true) (h4 : (kindF ((c :: r).takeWhile (fun c => runB (bInt c))) == 0) = true) :
    lexGo (f + 1) off (c :: r) = .err off 4 := by
  rw [lexGo, if_neg (by rw [h]; exact Bool.false_ne_true), if_neg (by rw [h2]; exact Bool.false_ne_true), if_pos h3, if_pos h4]
theorem lexGo_sym (f off : Nat) (c : UInt8) (r : List UInt8) (h : blankB (bInt c) = false) (h2 : (bInt c == 35) = false) (h3 : runB (bInt c) = false) (h4 : symB (bInt c) = true) :
    lexGo (f + 1) off (c :: r) = (lexGo f (off + 1) r).pre [⟨4, [c], off⟩] := by
  rw [lexGo, if_neg (by rw [h]; exact Bool.false_ne_true), if_neg (by rw [h2]; exact Bool.false_ne_true), if_neg (by rw [h3]; exact Bool.false_ne_true), if_pos h4]
theorem lexGo_bad (f off : Nat) (c : UInt8) (r : List UInt8) (h : blankB (bInt c) = false) (h2 : (bInt c == 35) = false) (h3 : runB (bInt c) = false) (h4 : symB (bInt c) = false) :
    lexGo (f + 1) off (c :: r) = .err off 1 := by
  rw [lexGo, if_neg (by rw [h]; exact Bool.false_ne_true), if_neg (by rw [h2]; exact Bool.false_ne_true), if_neg (by rw [h3]; exact Bool.false_ne_true), if_neg (by rw [h4]; exact Bool.false_ne_true)]
theorem sym_not_run (n : Int) (h : symB n = true) : runB n = false := by
  have h' : n = 40 ∨ n = 41 ∨ n = 44 ∨ n = 46 := by
    unfold symB at h
    simp only [Bool.or_eq_true, beq_iff_eq] at h
    omega
  rcases h' with rfl | rfl | rfl | rfl <;> rfl

theorem dropWhile_drop {α : Type} (p : α → Bool) : ∀ l : List α, l.dropWhile p = l.drop (l.takeWhile p).length
  | [] => rfl
  | a :: l => by
    cases h : p a with
    | true => rw [List.dropWhile_cons_of_pos h, List.takeWhile_cons_of_pos h, dropWhile_drop p l]; rfl
    | false => rw [List.dropWhile_cons_of_neg (by simp [h]), List.takeWhile_cons_of_neg (by simp [h])]; rfl
theorem takeWhile_take {α : Type} (p : α → Bool) : ∀ l : List α, l.takeWhile p = l.take (l.takeWhile p).length
  | [] => rfl
  | a :: l => by
    cases h : p a with
    | true => rw [List.takeWhile_cons_of_pos h, List.length_cons, List.take_succ_cons, ← takeWhile_take p l]
    | false => rw [List.takeWhile_cons_of_neg (by simp [h])]; rfl
theorem extract_bs (s : ByteArray) (i j : Nat) : s.extract i j = bs ((s.data.toList.drop i).take (j - i)) := by
  have h : (s.extract i j).data.toList = (s.data.toList.drop i).take (j - i) := by
    rw [ByteArray.data_extract]
    simp
  cases hx : s.extract i j
  rw [hx] at h
  simp only at h
  unfold bs
  rw [← h]
theorem toList_bs (l : List UInt8) : (bs l).data.toList = l := rfl
theorem bs_toList (s : ByteArray) : bs s.data.toList = s := rfl
theorem size_bs (l : List UInt8) : (bs l).size = l.length := by unfold bs ByteArray.size; simp

end
/- The plain functions of the parser (no program in sight). -/
section

/-- a term: a name and arguments -/
inductive Tm where
  | mk (name : List UInt8) (args : List Tm)
structure Li where
  neg : Bool
  atom : Tm
structure Ru where
  head : Tm
  body : List Li

/-- what reading from tokens gives: a value and the tokens that are left, or the first violation -/
inductive PR (α : Type) where
  | ok (v : α) (rest : List Tok)
  | err (pos : Nat) (e : Int)

def hd (ts : List Tok) : Tok := ts.headD ⟨0, [], 0⟩
def isT (ts : List Tok) (s : List UInt8) : Bool := ((hd ts).kind == 4 || (hd ts).kind == 5) && (hd ts).text == s
def begT (ts : List Tok) : Bool := (hd ts).kind == 1 || (hd ts).kind == 2 || (hd ts).kind == 3
def failT {α : Type} (ts : List Tok) (e : Int) : PR α := .err (hd ts).pos e

def argsF (tf : List Tok → PR Tm) : Nat → List Tm → List Tok → PR (List Tm)
  | 0, _, ts => failT ts 1
  | n + 1, acc, ts =>
    if (acc.length == 4 && begT ts) then failT ts 5
    else match tf ts with
      | .err p e => .err p e
      | .ok t ts' =>
        if isT ts' [44] then argsF tf n (acc ++ [t]) ts'.tail
        else if isT ts' [41] then .ok (acc ++ [t]) ts'.tail
        else failT ts' 1

def compF (tf : List Tok → PR Tm) (ts : List Tok) : PR Tm :=
  if isT ts.tail [40] then
    match argsF tf 5 [] ts.tail.tail with
    | .err p e => .err p e
    | .ok l ts' => .ok (.mk (hd ts).text l) ts'
  else .ok (.mk (hd ts).text []) ts.tail

def termF : Nat → List Tok → PR Tm
  | 0, ts => if begT ts then failT ts 3 else failT ts 1
  | d + 1, ts => if begT ts then (if (hd ts).kind == 1 then compF (termF d) ts else .ok (.mk (hd ts).text []) ts.tail) else failT ts 1

def atomF (ts : List Tok) : PR Tm := if (hd ts).kind == 1 then compF (termF 3) ts else failT ts 1

def litF (others : Nat) (ts : List Tok) : PR Li :=
  if (others == 8 && (isT ts [110, 111, 116] || (hd ts).kind == 1)) then failT ts 2
  else if isT ts [110, 111, 116] then (match atomF ts.tail with | .err p e => .err p e | .ok t r => .ok ⟨true, t⟩ r)
  else (match atomF ts with | .err p e => .err p e | .ok t r => .ok ⟨false, t⟩ r)

def bodyF : Nat → List Li → List Tok → PR (List Li)
  | 0, _, ts => failT ts 1
  | n + 1, acc, ts =>
    match litF acc.length ts with
    | .err p e => .err p e
    | .ok l ts' => if isT ts' [97, 110, 100] then bodyF n (acc ++ [l]) ts'.tail else .ok (acc ++ [l]) ts'

def ruleF (ts : List Tok) : PR Ru :=
  match atomF ts with
  | .err p e => .err p e
  | .ok h ts1 =>
    match (if isT ts1 [105, 102] then bodyF 9 [] ts1.tail else .ok [] ts1) with
    | .err p e => .err p e
    | .ok b ts2 => if isT ts2 [46] then .ok ⟨h, b⟩ ts2.tail else failT ts2 1

def rulesF : Nat → List Ru → List Tok → PR (List Ru)
  | 0, _, ts => failT ts 1
  | n + 1, acc, ts =>
    if (hd ts).kind == 0 then .ok acc ts
    else if (acc.length == 128 && (hd ts).kind == 1) then failT ts 2
    else match ruleF ts with
      | .err p e => .err p e
      | .ok r ts' => rulesF n (acc ++ [r]) ts'

def termsGo : Nat → List Tm → List Tok → PR (List Tm)
  | 0, _, ts => failT ts 1
  | n + 1, acc, ts =>
    match termF 4 ts with
    | .err p e => .err p e
    | .ok t ts' => if isT ts' [44] then termsGo n (acc ++ [t]) ts'.tail else .ok (acc ++ [t]) ts'
def termsF (ts : List Tok) : PR (List Tm) := if (hd ts).kind == 0 then .ok [] ts else termsGo ts.length [] ts

/-- what reading a whole text gives -/
inductive Rs (α : Type) where
  | ok (v : α)
  | err (pos : Nat) (e : Int)

def endF {α : Type} : PR α → Rs α
  | .err p e => .err p e
  | .ok v r => if (hd r).kind == 0 then .ok v else .err (hd r).pos 1
def readF {α : Type} (pf : List Tok → PR α) (l : List UInt8) : Rs α :=
  match lexF l with
  | .err p e => .err p e
  | .ok ts => endF (pf ts)

def parseF (l : List UInt8) : Rs (List Ru) := readF (rulesF 129 []) l
def ruleRF (l : List UInt8) : Rs Ru := readF ruleF l
def termRF (l : List UInt8) : Rs Tm := readF (termF 4) l
def termsRF (l : List UInt8) : Rs (List Tm) := readF termsF l

/-- the last token is the end -/
def EndL : List Tok → Prop
  | [] => False
  | [t] => t.kind = 0
  | _ :: t :: r => EndL (t :: r)
theorem EndL.tail {t : Tok} {r : List Tok} (h : EndL (t :: r)) (hk : t.kind ≠ 0) : EndL r := by
  cases r with
  | nil => exact absurd h hk
  | cons a r => exact h
theorem EndL.ne {ts : List Tok} (h : EndL ts) : ts ≠ [] := by
  rintro rfl; exact h
theorem EndL.append {a b : List Tok} (h : EndL b) : EndL (a ++ b) := by
  induction a with
  | nil => exact h
  | cons x a ih =>
    cases hab : a ++ b with
    | nil => rw [hab] at ih; exact ih.elim
    | cons y r => rw [hab] at ih; rw [List.cons_append, hab]; exact ih
theorem EndL.hdtail {ts : List Tok} (h : EndL ts) (hk : (hd ts).kind ≠ 0) : EndL ts.tail := by
  cases ts with
  | nil => exact h.elim
  | cons t r => exact h.tail hk
theorem lexGo_end : ∀ (f off : Nat) (l : List UInt8) (ts : List Tok), lexGo f off l = .ok ts → EndL ts := by
  intro f
  induction f with
  | zero => intro off l ts h; cases h
  | succ f ih =>
    intro off l ts h
    cases l with
    | nil => rw [lexGo_nil] at h; cases h; exact rfl
    | cons c r =>
      cases hb : blankB (bInt c) with
      | true => rw [lexGo_blank _ _ _ _ hb] at h; exact ih _ _ _ h
      | false =>
        cases hh : (bInt c == 35) with
        | true => rw [lexGo_hash _ _ _ _ hb hh] at h; exact ih _ _ _ h
        | false =>
          cases hr : runB (bInt c) with
          | true =>
            cases hk : (kindF ((c :: r).takeWhile (fun c => runB (bInt c))) == 0) with
            | true => rw [lexGo_badrun _ _ _ _ hb hh hr hk] at h; cases h
            | false =>
              rw [lexGo_run _ _ _ _ hb hh hr hk] at h
              cases hg : lexGo f (off + ((c :: r).takeWhile (fun c => runB (bInt c))).length) ((c :: r).dropWhile (fun c => runB (bInt c))) with
              | ok ts' => rw [hg] at h; cases h; exact (ih _ _ _ hg).append
              | err p e => rw [hg] at h; cases h
          | false =>
            cases hs : symB (bInt c) with
            | true =>
              rw [lexGo_sym _ _ _ _ hb hh hr hs] at h
              cases hg : lexGo f (off + 1) r with
              | ok ts' => rw [hg] at h; cases h; exact (ih _ _ _ hg).append
              | err p e => rw [hg] at h; cases h
            | false => rw [lexGo_bad _ _ _ _ hb hh hr hs] at h; cases h
theorem lexF_end {l : List UInt8} {ts : List Tok} (h : lexF l = .ok ts) : EndL ts := by
  unfold lexF at h
  split at h
  · cases h
  · exact lexGo_end _ _ _ _ h
theorem isT_kind {ts : List Tok} {s : List UInt8} (h : isT ts s = true) : (hd ts).kind ≠ 0 := by
  unfold isT at h
  simp only [Bool.and_eq_true, Bool.or_eq_true, beq_iff_eq] at h
  omega
theorem begT_kind {ts : List Tok} (h : begT ts = true) : (hd ts).kind ≠ 0 := by
  unfold begT at h
  simp only [Bool.or_eq_true, beq_iff_eq] at h
  omega

end
/- Small helpers for the walks: equal results, cells behind 'Below', strings cut and joined. -/
section
open Go Go.RowKit

theorem ret_bool {a b : Bool} (h : a = b) : Ending.returned (.bool a) = .returned (.bool b) := by rw [h]
theorem ret_int {k : IntKind} {a b : Int} (h : a = b) : Ending.returned (.int k a) = .returned (.int k b) := by rw [h]
theorem val_bool {a b : Bool} (h : a = b) : Value.bool a = .bool b := by rw [h]
theorem val_int {k : IntKind} {a b : Int} (h : a = b) : Value.int k a = .int k b := by rw [h]

/-- behind a contract that ends in 'Below' all old cells and marks read as before -/
theorem bcell {W w1 : World} (hb : Below W.heap.size W w1) : (∀ b o, b < W.heap.size → w1.cell? ⟨b, o, none⟩ = W.cell? ⟨b, o, none⟩) ∧ (∀ b o, b < W.heap.size → w1.frozen? ⟨b, o, none⟩ = W.frozen? ⟨b, o, none⟩) :=
  ⟨fun b o h => hb.cell (p := ⟨b, o, none⟩) h, fun b o h => hb.frozen (p := ⟨b, o, none⟩) h⟩

theorem below_drewN {B : Nat} {a w : World} (h : Below B a w) (n : Nat) : Below B a (w.drewN n) := ⟨h.os, h.tape, h.output, h.size, h.block⟩

theorem take_snoc (s : ByteArray) (k : Nat) (h : k < s.size) : s.data.toList.take (k + 1) = s.data.toList.take k ++ [s[k]] := by
  rw [List.take_succ_eq_append_getElem (by simpa using h)]; rfl
theorem take_full (s : ByteArray) : s.data.toList.take s.size = s.data.toList := List.take_of_length_le (by simp)
theorem head_of (s : ByteArray) (h : 0 < s.size) : s.data.toList.headD 0 = s[0] := by
  rw [List.headD_eq_head?_getD, List.head?_eq_getElem?, List.getElem?_eq_getElem (by simpa using h)]
  rfl
theorem all_snoc (p : UInt8 → Bool) (s : ByteArray) (k : Nat) (h : k < s.size) : (s.data.toList.take (k + 1)).all p = ((s.data.toList.take k).all p && p s[k]) := by
  rw [take_snoc s k h]; simp
theorem all_no (p : UInt8 → Bool) (s : ByteArray) (k : Nat) (h : k < s.size) (hp : p s[k] = false) : s.data.toList.all p = false := by
  rw [List.all_eq_false]
  exact ⟨s[k], by rw [show s[k] = s.data.toList[k]'(by simpa using h) from rfl]; exact List.getElem_mem _, by rw [hp]; simp⟩

end
/- What terms, literals, rules and lists of them look like in memory. -/
section
open Go Go.RowKit

/-- the cells of the elements of a slice at address A, sz cells each; P says in which blocks they may lie -/
def Arr (w : World) (P : Nat → Prop) (A : Option Addr) (sz : Nat) (xs : List (List Value)) : Prop :=
  0 < xs.length → ∃ b o, A = some ⟨b, o, none⟩ ∧ P b ∧ b < w.heap.size ∧ ∀ (i : Nat) (x : List Value), xs[i]? = some x → ∀ (j : Nat) (u : Value), x[j]? = some u → w.cell? ⟨b, o + i * sz + j, none⟩ = some u

theorem Arr.keep {w w' : World} {P P' : Nat → Prop} {A : Option Addr} {sz : Nat} {xs : List (List Value)} (h : Arr w P A sz xs)
    (hk : ∀ b, P b → b < w.heap.size → P' b ∧ w'.heap[b]? = w.heap[b]?) (hs : w.heap.size ≤ w'.heap.size) : Arr w' P' A sz xs := by
  intro hn
  obtain ⟨b, o, hA, hP, hlt, hc⟩ := h hn
  obtain ⟨hP', he⟩ := hk b hP hlt
  exact ⟨b, o, hA, hP', Nat.lt_of_lt_of_le hlt hs, fun i x hx j u hu => by rw [World.cell?_of_block (a := ⟨b, o + i * sz + j, none⟩) he]; exact hc i x hx j u hu⟩

/-- the cells [name, arguments] hold a term -/
inductive TmV (w : World) (P : Nat → Prop) : List Value → Tm → Prop
  | mk (nm : List UInt8) (A : Option Addr) (cap : Nat) (l : List Tm) (xs : List (List Value)) (hl : xs.length = l.length) (ha : Arr w P A 2 xs)
      (ht : ∀ (i : Nat) (x : List Value) (t : Tm), xs[i]? = some x → l[i]? = some t → TmV w P x t) : TmV w P [.string (bs nm), .slice A l.length cap] (.mk nm l)

theorem TmV.keep {w w' : World} {P P' : Nat → Prop} {x : List Value} {t : Tm} (h : TmV w P x t)
    (hk : ∀ b, P b → b < w.heap.size → P' b ∧ w'.heap[b]? = w.heap[b]?) (hs : w.heap.size ≤ w'.heap.size) : TmV w' P' x t := by
  induction h with
  | mk nm A cap l xs hl ha ht ih => exact .mk nm A cap l xs hl (ha.keep hk hs) ih
theorem TmV.form {w : World} {P : Nat → Prop} {x : List Value} {t : Tm} (h : TmV w P x t) : ∃ nm A cap l, x = [.string (bs nm), .slice A l.length cap] ∧ t = .mk nm l := by
  cases h with
  | mk nm A cap l xs hl ha ht => exact ⟨nm, A, cap, l, rfl, rfl⟩

/-- a way to read the cells of one element -/
abbrev Rdr (α : Type) := World → (Nat → Prop) → List Value → α → Prop
/-- readings that survive where their blocks stay -/
def Keeps {α : Type} (R : Rdr α) : Prop :=
  ∀ (w w' : World) (P P' : Nat → Prop) (x : List Value) (a : α), R w P x a → (∀ b, P b → b < w.heap.size → P' b ∧ w'.heap[b]? = w.heap[b]?) → w.heap.size ≤ w'.heap.size → R w' P' x a
theorem keeps_tm : Keeps TmV := fun _ _ _ _ _ _ h hk hs => h.keep hk hs

/-- a slice whose elements are read by R -/
def SlV {α : Type} (R : Rdr α) (sz : Nat) (w : World) (P : Nat → Prop) (A : Option Addr) (l : List α) : Prop :=
  ∃ xs : List (List Value), xs.length = l.length ∧ Arr w P A sz xs ∧ ∀ (i : Nat) (x : List Value) (a : α), xs[i]? = some x → l[i]? = some a → R w P x a
theorem SlV.keep {α : Type} {R : Rdr α} (hR : Keeps R) {sz : Nat} {w w' : World} {P P' : Nat → Prop} {A : Option Addr} {l : List α} (h : SlV R sz w P A l)
    (hk : ∀ b, P b → b < w.heap.size → P' b ∧ w'.heap[b]? = w.heap[b]?) (hs : w.heap.size ≤ w'.heap.size) : SlV R sz w' P' A l := by
  obtain ⟨xs, h1, h2, h3⟩ := h
  exact ⟨xs, h1, h2.keep hk hs, fun i x a hx ha => hR _ _ _ _ _ _ (h3 i x a hx ha) hk hs⟩

/-- the cells [not, name, arguments] hold a literal -/
def LiV (w : World) (P : Nat → Prop) (x : List Value) (l : Li) : Prop := ∃ y, x = .bool l.neg :: y ∧ TmV w P y l.atom
theorem keeps_li : Keeps LiV := fun _ _ _ _ _ _ ⟨y, e, h⟩ hk hs => ⟨y, e, h.keep hk hs⟩
/-- the cells [name, arguments, body] hold a rule -/
def RuV (w : World) (P : Nat → Prop) (x : List Value) (r : Ru) : Prop :=
  ∃ y A cap, x = y ++ [.slice A r.body.length cap] ∧ TmV w P y r.head ∧ SlV LiV 3 w P A r.body
theorem keeps_ru : Keeps RuV := fun _ _ _ _ _ _ ⟨y, A, cap, e, h1, h2⟩ hk hs => ⟨y, A, cap, e, h1.keep hk hs, h2.keep keeps_li hk hs⟩

/-- a slice that the call makes and appends to: the value v owns the elements l -/
def OwnL {α : Type} (R : Rdr α) (e : TypeId) (sz : Nat) (w : World) (base : Nat) (v : Value) (l : List α) : Prop :=
  ∃ xs : List (List Value), xs.length = l.length ∧ (∀ x ∈ xs, x.length = sz) ∧ w.ownsRow base e sz v l.length xs.flatten ∧
    ∀ (i : Nat) (x : List Value) (a : α), xs[i]? = some x → l[i]? = some a → R w (fun b => base ≤ b ∧ some b ≠ v.ownBlock) x a

theorem OwnL.nil {α : Type} (R : Rdr α) (e : TypeId) (sz : Nat) (w : World) (base : Nat) : OwnL R e sz w base (.slice none 0 0) ([] : List α) :=
  ⟨[], rfl, (by simp), World.ownsRow_nil _ _ _ _, (by simp)⟩

/-- kept while only other blocks change -/
theorem OwnL.keep {α : Type} {R : Rdr α} (hR : Keeps R) {e : TypeId} {sz : Nat} {w w' : World} {base : Nat} {v : Value} {l : List α} (h : OwnL R e sz w base v l)
    {row : Option Nat} (hg : w.grownBy w' row) (hr : ∀ k, row = some k → k < base) : OwnL R e sz w' base v l := by
  obtain ⟨xs, h1, h2, h3, h4⟩ := h
  refine ⟨xs, h1, h2, h3.kept hg ?_, fun i x a hx ha => hR _ _ _ _ _ _ (h4 i x a hx ha) (fun b hb hlt => ⟨hb, hg.block b hlt (fun e => ?_)⟩) hg.size⟩
  · cases hv : v.ownBlock with
    | none => exact .inl rfl
    | some k =>
      refine .inr (fun e => ?_)
      have := (h3.lt k hv).1
      have := hr k (by rw [← e])
      omega
  · have := hr b e.symm
    omega
theorem OwnL.below {α : Type} {R : Rdr α} (hR : Keeps R) {e : TypeId} {sz : Nat} {w w' : World} {base : Nat} {v : Value} {l : List α} (h : OwnL R e sz w base v l) (hb : Below w.heap.size w w') : OwnL R e sz w' base v l :=
  h.keep hR (row := none) ⟨hb.os, hb.tape, hb.output, hb.size, fun k hk _ => hb.block k hk⟩ (fun _ h => by cases h)

theorem flatten_get {sz : Nat} : ∀ (xs : List (List Value)) (_ : ∀ x ∈ xs, x.length = sz) (i j : Nat) (x : List Value) (u : Value), xs[i]? = some x → x[j]? = some u → xs.flatten[i * sz + j]? = some u
  | [], _, i, _, _, _, hx, _ => by simp at hx
  | y :: xs, hl, i, j, x, u, hx, hu => by
    have hy := hl y (by simp)
    have hj : j < x.length := (List.getElem?_eq_some_iff.1 hu).1
    cases i with
    | zero =>
      simp at hx
      subst hx
      rw [List.flatten_cons, List.getElem?_append_left (by omega), Nat.zero_mul, Nat.zero_add]
      exact hu
    | succ i =>
      rw [List.flatten_cons, List.getElem?_append_right (by rw [hy, Nat.succ_mul]; omega)]
      have := flatten_get xs (fun z hz => hl z (List.mem_cons_of_mem _ hz)) i j x u (by simpa using hx) hu
      rw [← this]
      congr 1
      rw [hy, Nat.succ_mul]; omega

/-- what is owned reads as a slice -/
theorem OwnL.sl {α : Type} {R : Rdr α} (hR : Keeps R) {e : TypeId} {sz : Nat} {w : World} {base : Nat} {A : Option Addr} {n cap : Nat} {l : List α} (h : OwnL R e sz w base (.slice A n cap) l) : SlV R sz w (fun b => base ≤ b) A l := by
  obtain ⟨xs, h1, h2, h3, h4⟩ := h
  refine ⟨xs, h1, fun hn => ?_, fun i x a hx ha => hR _ _ _ _ _ _ (h4 i x a hx ha) (fun b hb _ => ⟨hb.1, rfl⟩) (Nat.le_refl _)⟩
  obtain ⟨g, cp, hv, hb, hlt⟩ := h3.form (by omega)
  have hA : A = some ⟨g, 0, none⟩ := by injection hv
  subst hA
  refine ⟨g, 0, rfl, hb, hlt, fun i x hx j u hu => ?_⟩
  have := h3.cells (g := g) rfl _ u (flatten_get xs h2 i j x u hx hu)
  rw [← this]
  congr 1
  unfold Addr.add; split <;> simp_all
theorem OwnL.len {α : Type} {R : Rdr α} {e : TypeId} {sz : Nat} {w : World} {base : Nat} {v : Value} {l : List α} (h : OwnL R e sz w base v l) : ∃ A cap, v = .slice A l.length cap := by
  obtain ⟨xs, h1, h2, h3, h4⟩ := h
  rcases h3.2 with ⟨rfl, h0⟩ | ⟨g, cap, cur, rfl, _⟩
  · rw [h0]; exact ⟨_, _, rfl⟩
  · exact ⟨_, _, rfl⟩
theorem OwnL.row {α : Type} {R : Rdr α} {e : TypeId} {sz : Nat} {w : World} {base : Nat} {v : Value} {l : List α} (h : OwnL R e sz w base v l) : ∃ xs, w.ownsRow base e sz v l.length xs ∧ xs.length = l.length * sz := by
  obtain ⟨xs, h1, h2, h3, h4⟩ := h
  exact ⟨_, h3, h3.1⟩

/-- one element more: wA: the world ahead of the block that holds the new element; w1: behind the append -/
theorem OwnL.push {α : Type} {R : Rdr α} (hR : Keeps R) {e : TypeId} {sz : Nat} {w wA w1 : World} {base : Nat} {v : Value} {l : List α} {x : List Value} {a : α} {g cap : Nat} {xs : List (List Value)}
    (h1 : xs.length = l.length) (h2 : ∀ x ∈ xs, x.length = sz)
    (h4 : ∀ (i : Nat) (x : List Value) (a : α), xs[i]? = some x → l[i]? = some a → R w (fun b => base ≤ b ∧ some b ≠ v.ownBlock) x a)
    (hx : R w (fun b => base ≤ b ∧ some b ≠ v.ownBlock) x a) (hxl : x.length = sz)
    (hwA : ∀ b, b < w.heap.size → wA.heap[b]? = w.heap[b]?) (hsA : w.heap.size ≤ wA.heap.size)
    (hown : w1.ownsRow base e sz (.slice (some ⟨g, 0, none⟩) (l.length + 1) cap) (l.length + 1) (xs.flatten ++ x))
    (hgrow : wA.grownBy w1 v.ownBlock) (hat : v.ownBlock = some g ∨ w.heap.size ≤ g) : OwnL R e sz w1 base (.slice (some ⟨g, 0, none⟩) (l.length + 1) cap) (l ++ [a]) := by
  have hk : ∀ b, (base ≤ b ∧ some b ≠ v.ownBlock) → b < w.heap.size → (base ≤ b ∧ some b ≠ (Value.slice (some ⟨g, 0, none⟩) (l.length + 1) cap).ownBlock) ∧ w1.heap[b]? = w.heap[b]? := by
    intro b ⟨hb, hne⟩ hbl
    refine ⟨⟨hb, ?_⟩, ?_⟩
    · simp only [Value.ownBlock]
      rintro e
      injection e with e
      subst e
      rcases hat with hat | hat
      · exact hne hat.symm
      · omega
    · rw [hgrow.block b (by omega) hne, hwA b hbl]
  have hs : w.heap.size ≤ w1.heap.size := Nat.le_trans hsA hgrow.size
  refine ⟨xs ++ [x], by simp [h1], ?_, ?_, ?_⟩
  · intro y hy
    rcases List.mem_append.1 hy with hy | hy
    · exact h2 y hy
    · simp at hy; subst hy; exact hxl
  · rw [List.length_append]
    simpa using hown
  · intro i y b hy hb
    rcases Nat.lt_or_ge i xs.length with hi | hi
    · rw [List.getElem?_append_left hi] at hy
      rw [List.getElem?_append_left (by omega)] at hb
      exact hR _ _ _ _ _ _ (h4 i y b hy hb) hk hs
    · have hi' : i = xs.length := by
        have := (List.getElem?_eq_some_iff.1 hy).1
        simp at this
        omega
      subst hi'
      rw [List.getElem?_append_right (Nat.le_refl _)] at hy
      rw [h1, List.getElem?_append_right (Nat.le_refl _)] at hb
      simp at hy hb
      subst hy; subst hb
      exact hR _ _ _ _ _ _ hx hk hs

end
end Go.Proofs.YtmplpbdldcokjaaGreatDoor
