/- What terms, literals, rules and lists of them look like in memory. -/
import Derived.Test.YtnlphgpcpdfjhaaDoorPx
import Derived.Test.YtnlphgpcpdfjhaaDoorKt
import Derived.Deep.AppendLies
import Derived.OwnWalk
namespace Go.Proofs.YtnlphgpcpdfjhaaDoor
open Go Go.RowKit

/-- the cells of the elements of a slice at address A, sz cells each; P says in which blocks they may lie -/
def Arr (w : World) (P : Nat → Prop) (A : Option Addr) (sz : Nat) (xs : List (List Value)) : Prop :=
  0 < xs.length → ∃ b o, A = some ⟨b, o, none⟩ ∧ P b ∧ b < w.heap.size ∧ ∀ (i : Nat) (x : List Value), xs[i]? = some x → ∀ (j : Nat) (u : Value), x[j]? = some u → w.cell? ⟨b, o + i * sz + j, none⟩ = some u

theorem Arr.keep {w w' : World} {P P' : Nat → Prop} {A : Option Addr} {sz : Nat} {xs : List (List Value)} (h : Arr w P A sz xs)
    (hk : ∀ b, P b → b < w.heap.size → P' b ∧ w'.heap[b]? = w.heap[b]?) (hs : w.heap.size ≤ w'.heap.size) : Arr w' P' A sz xs := by
  intro hn
  obtain ⟨b, o, hA, hP, hlt, hc⟩ := h hn
  obtain ⟨hP', he⟩ := hk b hP hlt
  exact ⟨b, o, hA, hP', Nat.lt_of_lt_of_le hlt hs, fun i x hx j u hu => by rw [World.cell?_of_block (a := ⟨b, o + i * sz + j, none⟩) he]; exact hc i x hx j u hu⟩

/-- the cells [name, arguments] hold a term -/
inductive TmV (w : World) (P : Nat → Prop) : List Value → Tm → Prop
  | mk (nm : List UInt8) (A : Option Addr) (cap : Nat) (l : List Tm) (xs : List (List Value)) (hl : xs.length = l.length) (ha : Arr w P A 2 xs)
      (ht : ∀ (i : Nat) (x : List Value) (t : Tm), xs[i]? = some x → l[i]? = some t → TmV w P x t) : TmV w P [.string (bs nm), .slice A l.length cap] (.mk nm l)

theorem TmV.keep {w w' : World} {P P' : Nat → Prop} {x : List Value} {t : Tm} (h : TmV w P x t)
    (hk : ∀ b, P b → b < w.heap.size → P' b ∧ w'.heap[b]? = w.heap[b]?) (hs : w.heap.size ≤ w'.heap.size) : TmV w' P' x t := by
  induction h with
  | mk nm A cap l xs hl ha ht ih => exact .mk nm A cap l xs hl (ha.keep hk hs) ih
theorem TmV.form {w : World} {P : Nat → Prop} {x : List Value} {t : Tm} (h : TmV w P x t) : ∃ nm A cap l, x = [.string (bs nm), .slice A l.length cap] ∧ t = .mk nm l := by
  cases h with
  | mk nm A cap l xs hl ha ht => exact ⟨nm, A, cap, l, rfl, rfl⟩

/-- a way to read the cells of one element -/
abbrev Rdr (α : Type) := World → (Nat → Prop) → List Value → α → Prop
/-- readings that survive where their blocks stay -/
def Keeps {α : Type} (R : Rdr α) : Prop :=
  ∀ (w w' : World) (P P' : Nat → Prop) (x : List Value) (a : α), R w P x a → (∀ b, P b → b < w.heap.size → P' b ∧ w'.heap[b]? = w.heap[b]?) → w.heap.size ≤ w'.heap.size → R w' P' x a
theorem keeps_tm : Keeps TmV := fun _ _ _ _ _ _ h hk hs => h.keep hk hs

/-- a slice whose elements are read by R -/
def SlV {α : Type} (R : Rdr α) (sz : Nat) (w : World) (P : Nat → Prop) (A : Option Addr) (l : List α) : Prop :=
  ∃ xs : List (List Value), xs.length = l.length ∧ Arr w P A sz xs ∧ ∀ (i : Nat) (x : List Value) (a : α), xs[i]? = some x → l[i]? = some a → R w P x a
theorem SlV.keep {α : Type} {R : Rdr α} (hR : Keeps R) {sz : Nat} {w w' : World} {P P' : Nat → Prop} {A : Option Addr} {l : List α} (h : SlV R sz w P A l)
    (hk : ∀ b, P b → b < w.heap.size → P' b ∧ w'.heap[b]? = w.heap[b]?) (hs : w.heap.size ≤ w'.heap.size) : SlV R sz w' P' A l := by
  obtain ⟨xs, h1, h2, h3⟩ := h
  exact ⟨xs, h1, h2.keep hk hs, fun i x a hx ha => hR _ _ _ _ _ _ (h3 i x a hx ha) hk hs⟩

/-- the cells [not, name, arguments] hold a literal -/
def LiV (w : World) (P : Nat → Prop) (x : List Value) (l : Li) : Prop := ∃ y, x = .bool l.neg :: y ∧ TmV w P y l.atom
theorem keeps_li : Keeps LiV := fun _ _ _ _ _ _ ⟨y, e, h⟩ hk hs => ⟨y, e, h.keep hk hs⟩
/-- the cells [name, arguments, body] hold a rule -/
def RuV (w : World) (P : Nat → Prop) (x : List Value) (r : Ru) : Prop :=
  ∃ y A cap, x = y ++ [.slice A r.body.length cap] ∧ TmV w P y r.head ∧ SlV LiV 3 w P A r.body
theorem keeps_ru : Keeps RuV := fun _ _ _ _ _ _ ⟨y, A, cap, e, h1, h2⟩ hk hs => ⟨y, A, cap, e, h1.keep hk hs, h2.keep keeps_li hk hs⟩

/-- a slice that the call makes and appends to: the value v owns the elements l -/
def OwnL {α : Type} (R : Rdr α) (e : TypeId) (sz : Nat) (w : World) (base : Nat) (v : Value) (l : List α) : Prop :=
  ∃ xs : List (List Value), xs.length = l.length ∧ (∀ x ∈ xs, x.length = sz) ∧ w.ownsRow base e sz v l.length xs.flatten ∧
    ∀ (i : Nat) (x : List Value) (a : α), xs[i]? = some x → l[i]? = some a → R w (fun b => base ≤ b ∧ some b ≠ v.ownBlock) x a

theorem OwnL.nil {α : Type} (R : Rdr α) (e : TypeId) (sz : Nat) (w : World) (base : Nat) : OwnL R e sz w base (.slice none 0 0) ([] : List α) :=
  ⟨[], rfl, (by simp), World.ownsRow_nil _ _ _ _, (by simp)⟩

/-- kept while only other blocks change -/
theorem OwnL.keep {α : Type} {R : Rdr α} (hR : Keeps R) {e : TypeId} {sz : Nat} {w w' : World} {base : Nat} {v : Value} {l : List α} (h : OwnL R e sz w base v l)
    {row : Option Nat} (hg : w.grownBy w' row) (hr : ∀ k, row = some k → k < base) : OwnL R e sz w' base v l := by
  obtain ⟨xs, h1, h2, h3, h4⟩ := h
  refine ⟨xs, h1, h2, h3.kept hg ?_, fun i x a hx ha => hR _ _ _ _ _ _ (h4 i x a hx ha) (fun b hb hlt => ⟨hb, hg.block b hlt (fun e => ?_)⟩) hg.size⟩
  · cases hv : v.ownBlock with
    | none => exact .inl rfl
    | some k =>
      refine .inr (fun e => ?_)
      have := (h3.lt k hv).1
      have := hr k (by rw [← e])
      omega
  · have := hr b e.symm
    omega
theorem OwnL.below {α : Type} {R : Rdr α} (hR : Keeps R) {e : TypeId} {sz : Nat} {w w' : World} {base : Nat} {v : Value} {l : List α} (h : OwnL R e sz w base v l) (hb : Below w.heap.size w w') : OwnL R e sz w' base v l :=
  h.keep hR (row := none) ⟨hb.os, hb.tape, hb.output, hb.size, fun k hk _ => hb.block k hk⟩ (fun _ h => by cases h)

theorem flatten_get {sz : Nat} : ∀ (xs : List (List Value)) (_ : ∀ x ∈ xs, x.length = sz) (i j : Nat) (x : List Value) (u : Value), xs[i]? = some x → x[j]? = some u → xs.flatten[i * sz + j]? = some u
  | [], _, i, _, _, _, hx, _ => by simp at hx
  | y :: xs, hl, i, j, x, u, hx, hu => by
    have hy := hl y (by simp)
    have hj : j < x.length := (List.getElem?_eq_some_iff.1 hu).1
    cases i with
    | zero =>
      simp at hx
      subst hx
      rw [List.flatten_cons, List.getElem?_append_left (by omega), Nat.zero_mul, Nat.zero_add]
      exact hu
    | succ i =>
      rw [List.flatten_cons, List.getElem?_append_right (by rw [hy, Nat.succ_mul]; omega)]
      have := flatten_get xs (fun z hz => hl z (List.mem_cons_of_mem _ hz)) i j x u (by simpa using hx) hu
      rw [← this]
      congr 1
      rw [hy, Nat.succ_mul]; omega

/-- what is owned reads as a slice -/
theorem OwnL.sl {α : Type} {R : Rdr α} (hR : Keeps R) {e : TypeId} {sz : Nat} {w : World} {base : Nat} {A : Option Addr} {n cap : Nat} {l : List α} (h : OwnL R e sz w base (.slice A n cap) l) : SlV R sz w (fun b => base ≤ b) A l := by
  obtain ⟨xs, h1, h2, h3, h4⟩ := h
  refine ⟨xs, h1, fun hn => ?_, fun i x a hx ha => hR _ _ _ _ _ _ (h4 i x a hx ha) (fun b hb _ => ⟨hb.1, rfl⟩) (Nat.le_refl _)⟩
  obtain ⟨g, cp, hv, hb, hlt⟩ := h3.form (by omega)
  have hA : A = some ⟨g, 0, none⟩ := by injection hv
  subst hA
  refine ⟨g, 0, rfl, hb, hlt, fun i x hx j u hu => ?_⟩
  have := h3.cells (g := g) rfl _ u (flatten_get xs h2 i j x u hx hu)
  rw [← this]
  congr 1
  unfold Addr.add; split <;> simp_all
theorem OwnL.len {α : Type} {R : Rdr α} {e : TypeId} {sz : Nat} {w : World} {base : Nat} {v : Value} {l : List α} (h : OwnL R e sz w base v l) : ∃ A cap, v = .slice A l.length cap := by
  obtain ⟨xs, h1, h2, h3, h4⟩ := h
  rcases h3.2 with ⟨rfl, h0⟩ | ⟨g, cap, cur, rfl, _⟩
  · rw [h0]; exact ⟨_, _, rfl⟩
  · exact ⟨_, _, rfl⟩
theorem OwnL.row {α : Type} {R : Rdr α} {e : TypeId} {sz : Nat} {w : World} {base : Nat} {v : Value} {l : List α} (h : OwnL R e sz w base v l) : ∃ xs, w.ownsRow base e sz v l.length xs ∧ xs.length = l.length * sz := by
  obtain ⟨xs, h1, h2, h3, h4⟩ := h
  exact ⟨_, h3, h3.1⟩

/-- one element more: wA: the world ahead of the block that holds the new element; w1: behind the append -/
theorem OwnL.push {α : Type} {R : Rdr α} (hR : Keeps R) {e : TypeId} {sz : Nat} {w wA w1 : World} {base : Nat} {v : Value} {l : List α} {x : List Value} {a : α} {g cap : Nat} {xs : List (List Value)}
    (h1 : xs.length = l.length) (h2 : ∀ x ∈ xs, x.length = sz)
    (h4 : ∀ (i : Nat) (x : List Value) (a : α), xs[i]? = some x → l[i]? = some a → R w (fun b => base ≤ b ∧ some b ≠ v.ownBlock) x a)
    (hx : R w (fun b => base ≤ b ∧ some b ≠ v.ownBlock) x a) (hxl : x.length = sz)
    (hwA : ∀ b, b < w.heap.size → wA.heap[b]? = w.heap[b]?) (hsA : w.heap.size ≤ wA.heap.size)
    (hown : w1.ownsRow base e sz (.slice (some ⟨g, 0, none⟩) (l.length + 1) cap) (l.length + 1) (xs.flatten ++ x))
    (hgrow : wA.grownBy w1 v.ownBlock) (hat : v.ownBlock = some g ∨ w.heap.size ≤ g) : OwnL R e sz w1 base (.slice (some ⟨g, 0, none⟩) (l.length + 1) cap) (l ++ [a]) := by
  have hk : ∀ b, (base ≤ b ∧ some b ≠ v.ownBlock) → b < w.heap.size → (base ≤ b ∧ some b ≠ (Value.slice (some ⟨g, 0, none⟩) (l.length + 1) cap).ownBlock) ∧ w1.heap[b]? = w.heap[b]? := by
    intro b ⟨hb, hne⟩ hbl
    refine ⟨⟨hb, ?_⟩, ?_⟩
    · simp only [Value.ownBlock]
      rintro e
      injection e with e
      subst e
      rcases hat with hat | hat
      · exact hne hat.symm
      · omega
    · rw [hgrow.block b (by omega) hne, hwA b hbl]
  have hs : w.heap.size ≤ w1.heap.size := Nat.le_trans hsA hgrow.size
  refine ⟨xs ++ [x], by simp [h1], ?_, ?_, ?_⟩
  · intro y hy
    rcases List.mem_append.1 hy with hy | hy
    · exact h2 y hy
    · simp at hy; subst hy; exact hxl
  · rw [List.length_append]
    simpa using hown
  · intro i y b hy hb
    rcases Nat.lt_or_ge i xs.length with hi | hi
    · rw [List.getElem?_append_left hi] at hy
      rw [List.getElem?_append_left (by omega)] at hb
      exact hR _ _ _ _ _ _ (h4 i y b hy hb) hk hs
    · have hi' : i = xs.length := by
        have := (List.getElem?_eq_some_iff.1 hy).1
        simp at this
        omega
      subst hi'
      rw [List.getElem?_append_right (Nat.le_refl _)] at hy
      rw [h1, List.getElem?_append_right (Nat.le_refl _)] at hb
      simp at hy hb
      subst hy; subst hb
      exact hR _ _ _ _ _ _ hx hk hs
end Go.Proofs.YtnlphgpcpdfjhaaDoor
