/- The plain functions of the lexer and of names (no program in sight), and small lemmas on lists of bytes. -/
import GoSem.Core.World
import Derived.WalkKit
namespace Go.Proofs.YtjobncfjebkcdaaDoor

/-- the bytes of a text as a string of the model -/
def bs (l : List UInt8) : ByteArray := ⟨l.toArray⟩

def lowerB (n : Int) : Bool := decide (97 ≤ n) && decide (n ≤ 122)
def upperB (n : Int) : Bool := decide (65 ≤ n) && decide (n ≤ 90)
def digitB (n : Int) : Bool := decide (48 ≤ n) && decide (n ≤ 57)
def runB (n : Int) : Bool := lowerB n || upperB n || digitB n || n == 45
def blankB (n : Int) : Bool := n == 32 || n == 9 || n == 10 || n == 13
def symB (n : Int) : Bool := n == 40 || n == 41 || n == 44 || n == 46
def noLf (n : Int) : Bool := !(n == 10)

def bInt (c : UInt8) : Int := (c.toNat : Int)

/-- the reserved words -/
def wordF (l : List UInt8) : Bool := l == [105, 102] || l == [97, 110, 100] || l == [110, 111, 116]
def nameCh (n : Int) : Bool := lowerB n || digitB n || n == 45
def varCh (n : Int) : Bool := lowerB n || upperB n || digitB n
def nameF (l : List UInt8) : Bool :=
  decide (1 ≤ l.length) && decide (l.length ≤ 16) && lowerB (bInt (l.headD 0)) && l.all (fun c => nameCh (bInt c)) && !wordF l
def varF (l : List UInt8) : Bool :=
  decide (1 ≤ l.length) && decide (l.length ≤ 16) && upperB (bInt (l.headD 0)) && l.all (fun c => varCh (bInt c))
def numF (l : List UInt8) : Bool :=
  decide (1 ≤ l.length) && decide (l.length ≤ 4) && !(decide (1 < l.length) && bInt (l.headD 0) == 48) && l.all (fun c => digitB (bInt c))
def valF (l : List UInt8) : Int := l.foldl (fun n c => 10 * n + (bInt c - 48)) 0
def kindF (l : List UInt8) : Int :=
  if wordF l then 5 else if nameF l then 1 else if numF l then 2 else if varF l then 3 else 0

structure Tok where
  kind : Int
  text : List UInt8
  pos : Nat

inductive LexR where
  | ok (l : List Tok)
  | err (pos : Nat) (e : Int)

def LexR.pre (acc : List Tok) : LexR → LexR
  | .ok l => .ok (acc ++ l)
  | .err p e => .err p e

def lexGo : Nat → Nat → List UInt8 → LexR
  | 0, off, _ => .err off 1
  | _ + 1, off, [] => .ok [⟨0, [], off⟩]
  | f + 1, off, c :: r =>
    if blankB (bInt c) then lexGo f (off + 1) r
    else if bInt c == 35 then lexGo f (off + ((c :: r).takeWhile (fun c => noLf (bInt c))).length) ((c :: r).dropWhile (fun c => noLf (bInt c)))
    else if runB (bInt c) then
      (if kindF ((c :: r).takeWhile (fun c => runB (bInt c))) == 0 then .err off 4
       else (lexGo f (off + ((c :: r).takeWhile (fun c => runB (bInt c))).length) ((c :: r).dropWhile (fun c => runB (bInt c)))).pre
        [⟨kindF ((c :: r).takeWhile (fun c => runB (bInt c))), (c :: r).takeWhile (fun c => runB (bInt c)), off⟩])
    else if symB (bInt c) then (lexGo f (off + 1) r).pre [⟨4, [c], off⟩]
    else .err off 1

/-- what Lex gives -/
def lexF (l : List UInt8) : LexR := if 16384 < l.length then .err 0 2 else lexGo (l.length + 1) 0 l

theorem pre_pre (a b : List Tok) (x : LexR) : (x.pre b).pre a = x.pre (a ++ b) := by cases x <;> simp [LexR.pre]
theorem pre_nil (x : LexR) : x.pre [] = x := by cases x <;> simp [LexR.pre]

theorem digitB_iff (n : Int) : digitB n = true ↔ 48 ≤ n ∧ n ≤ 57 := by unfold digitB; rw [Bool.and_eq_true, decide_eq_true_eq, decide_eq_true_eq]
theorem lowerB_iff (n : Int) : lowerB n = true ↔ 97 ≤ n ∧ n ≤ 122 := by unfold lowerB; rw [Bool.and_eq_true, decide_eq_true_eq, decide_eq_true_eq]
theorem upperB_iff (n : Int) : upperB n = true ↔ 65 ≤ n ∧ n ≤ 90 := by unfold upperB; rw [Bool.and_eq_true, decide_eq_true_eq, decide_eq_true_eq]
theorem digitB_no {n : Int} (h : ¬ digitB n = true) : n < 48 ∨ 57 < n := by rw [digitB_iff] at h; omega
theorem bInt_lo (c : UInt8) : 0 ≤ bInt c := by unfold bInt; omega
theorem bInt_hi (c : UInt8) : bInt c ≤ 255 := by unfold bInt; have := c.toNat_lt; omega


theorem lexGo_nil (f off : Nat) : lexGo (f + 1) off [] = .ok [⟨0, [], off⟩] := rfl
theorem lexGo_blank (f off : Nat) (c : UInt8) (r : List UInt8) (h : blankB (bInt c) = true) : lexGo (f + 1) off (c :: r) = lexGo f (off + 1) r := by
  rw [lexGo, if_pos h]
theorem lexGo_hash (f off : Nat) (c : UInt8) (r : List UInt8) (h : blankB (bInt c) = false) (h2 : (bInt c == 35) = true) :
    lexGo (f + 1) off (c :: r) = lexGo f (off + ((c :: r).takeWhile (fun c => noLf (bInt c))).length) ((c :: r).dropWhile (fun c => noLf (bInt c))) := by
  rw [lexGo, if_neg (by rw [h]; exact Bool.false_ne_true), if_pos h2]
theorem lexGo_run (f off : Nat) (c : UInt8) (r : List UInt8) (h : blankB (bInt c) = false) (h2 : (bInt c == 35) = false) (h3 : runB (bInt c) = true) (h4 : (kindF ((c :: r).takeWhile (fun c => runB (bInt c))) == 0) = false) :
    lexGo (f + 1) off (c :: r) = (lexGo f (off + ((c :: r).takeWhile (fun c => runB (bInt c))).length) ((c :: r).dropWhile (fun c => runB (bInt c)))).pre
        [⟨kindF ((c :: r).takeWhile (fun c => runB (bInt c))), (c :: r).takeWhile (fun c => runB (bInt c)), off⟩] := by
  rw [lexGo, if_neg (by rw [h]; exact Bool.false_ne_true), if_neg (by rw [h2]; exact Bool.false_ne_true), if_pos h3, if_neg (by rw [h4]; exact Bool.false_ne_true)]
theorem lexGo_badrun (f off : Nat) (c : UInt8) (r : List UInt8) (h : blankB (bInt c) = false) (h2 : (bInt c == 35) = false) (h3 : runB (bInt c) = true) (h4 : (kindF ((c :: r).takeWhile (fun c => runB (bInt c))) == 0) = true) :
    lexGo (f + 1) off (c :: r) = .err off 4 := by
  rw [lexGo, if_neg (by rw [h]; exact Bool.false_ne_true), if_neg (by rw [h2]; exact Bool.false_ne_true), if_pos h3, if_pos h4]
theorem lexGo_sym (f off : Nat) (c : UInt8) (r : List UInt8) (h : blankB (bInt c) = false) (h2 : (bInt c == 35) = false) (h3 : runB (bInt c) = false) (h4 : symB (bInt c) = true) :
    lexGo (f + 1) off (c :: r) = (lexGo f (off + 1) r).pre [⟨4, [c], off⟩] := by
  rw [lexGo, if_neg (by rw [h]; exact Bool.false_ne_true), if_neg (by rw [h2]; exact Bool.false_ne_true), if_neg (by rw [h3]; exact Bool.false_ne_true), if_pos h4]
theorem lexGo_bad (f off : Nat) (c : UInt8) (r : List UInt8) (h : blankB (bInt c) = false) (h2 : (bInt c == 35) = false) (h3 : runB (bInt c) = false) (h4 : symB (bInt c) = false) :
    lexGo (f + 1) off (c :: r) = .err off 1 := by
  rw [lexGo, if_neg (by rw [h]; exact Bool.false_ne_true), if_neg (by rw [h2]; exact Bool.false_ne_true), if_neg (by rw [h3]; exact Bool.false_ne_true), if_neg (by rw [h4]; exact Bool.false_ne_true)]
theorem sym_not_run (n : Int) (h : symB n = true) : runB n = false := by
  have h' : n = 40 ∨ n = 41 ∨ n = 44 ∨ n = 46 := by
    unfold symB at h
    simp only [Bool.or_eq_true, beq_iff_eq] at h
    omega
  rcases h' with rfl | rfl | rfl | rfl <;> rfl

theorem dropWhile_drop {α : Type} (p : α → Bool) : ∀ l : List α, l.dropWhile p = l.drop (l.takeWhile p).length
  | [] => rfl
  | a :: l => by
    cases h : p a with
    | true => rw [List.dropWhile_cons_of_pos h, List.takeWhile_cons_of_pos h, dropWhile_drop p l]; rfl
    | false => rw [List.dropWhile_cons_of_neg (by simp [h]), List.takeWhile_cons_of_neg (by simp [h])]; rfl
theorem takeWhile_take {α : Type} (p : α → Bool) : ∀ l : List α, l.takeWhile p = l.take (l.takeWhile p).length
  | [] => rfl
  | a :: l => by
    cases h : p a with
    | true => rw [List.takeWhile_cons_of_pos h, List.length_cons, List.take_succ_cons, ← takeWhile_take p l]
    | false => rw [List.takeWhile_cons_of_neg (by simp [h])]; rfl
theorem extract_bs (s : ByteArray) (i j : Nat) : s.extract i j = bs ((s.data.toList.drop i).take (j - i)) := by
  have h : (s.extract i j).data.toList = (s.data.toList.drop i).take (j - i) := by
    rw [ByteArray.data_extract]
    simp
  cases hx : s.extract i j
  rw [hx] at h
  simp only at h
  unfold bs
  rw [← h]
theorem toList_bs (l : List UInt8) : (bs l).data.toList = l := rfl
theorem bs_toList (s : ByteArray) : bs s.data.toList = s := rfl
theorem size_bs (l : List UInt8) : (bs l).size = l.length := by unfold bs ByteArray.size; simp
end Go.Proofs.YtjobncfjebkcdaaDoor
