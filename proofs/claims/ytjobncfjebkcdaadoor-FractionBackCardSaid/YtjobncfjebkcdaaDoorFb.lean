/- Boxes: the fractions that a law holds in memory, told as one list. -/
import Derived.Test.YtjobncfjebkcdaaDoorFw
import Derived.Test.YtjobncfjebkcdaaDoorHd
namespace Go.Proofs.YtjobncfjebkcdaaDoor
open Go Go.RowKit
set_option linter.unusedSimpArgs false

def boxF (f : Fr) : Obj := .cells #[.int .i64 f.num, .int .i64 f.den] 23
def BCells (w : World) : List (Nat × Fr) → Prop
  | [] => True
  | (q, f) :: l => w.cell? ⟨q, 0, none⟩ = some (.int .i64 f.num) ∧ w.cell? ⟨q, 1, none⟩ = some (.int .i64 f.den) ∧ q < w.heap.size ∧ BCells w l
structure Bxs (w0 w : World) (l : List (Nat × Fr)) : Prop where
  below : Below w0.heap.size w0 w
  blk : ∀ x ∈ l, w.heap[x.1]? = some (boxF x.2)
  old : ∀ x ∈ l, w0.heap.size ≤ x.1
  ord : l.Pairwise fun x y => y.1 < x.1
theorem Bxs.nil (w : World) : Bxs w w [] := ⟨Below.refl _ _, by simp, by simp, List.Pairwise.nil⟩
theorem Bxs.keep {w0 w w' : World} {l : List (Nat × Fr)} (h : Bxs w0 w l) (hb : Below w.heap.size w w') : Bxs w0 w' l :=
  ⟨h.below.trans (hb.mono h.below.size), fun x hx => (hb.block _ (heap_lt (h.blk x hx))).trans (h.blk x hx), h.old, h.ord⟩
theorem Bxs.new {w0 w : World} {l : List (Nat × Fr)} (h : Bxs w0 w l) (f : Fr) : Bxs w0 (w.alloc (boxF f)) ((w.heap.size, f) :: l) := by
  refine ⟨h.below.alloc h.below.size _, fun x hx => ?_, fun x hx => ?_, List.pairwise_cons.2 ⟨fun x hx => heap_lt (h.blk x hx), h.ord⟩⟩
  rotate_left
  · rcases List.mem_cons.1 hx with rfl | hx
    · exact h.below.size
    · exact h.old x hx
  rcases List.mem_cons.1 hx with rfl | hx
  · exact heap_alloc_new _ _
  · exact (Below.heap_alloc _ _ _ (heap_lt (h.blk x hx))).trans (h.blk x hx)
theorem Bxs.step {w0 w w' : World} {l : List (Nat × Fr)} (h : Bxs w0 w l) (hb : Below w.heap.size w w') (f : Fr) : Bxs w0 (w'.alloc (boxF f)) ((w'.heap.size, f) :: l) := (h.keep hb).new f
theorem Bxs.one (w : World) (a : Fr) : Bxs w (w.alloc (boxF a)) [(w.heap.size, a)] := (Bxs.nil w).new a
theorem Bxs.two (w : World) (a b : Fr) : Bxs w ((w.alloc (boxF a)).alloc (boxF b)) [(w.heap.size + 1, b), (w.heap.size, a)] := by
  have := (Bxs.one w a).new b
  simpa using this
theorem Bxs.three (w : World) (a b c : Fr) : Bxs w (((w.alloc (boxF a)).alloc (boxF b)).alloc (boxF c)) [(w.heap.size + 2, c), (w.heap.size + 1, b), (w.heap.size, a)] := by
  have := (Bxs.two w a b).new c
  simpa using this
theorem BCells.of {w : World} : ∀ {l : List (Nat × Fr)}, (∀ x ∈ l, w.heap[x.1]? = some (boxF x.2)) → BCells w l
  | [], _ => trivial
  | (q, f) :: _, h => ⟨(cells_two (h (q, f) List.mem_cons_self)).1, (cells_two (h (q, f) List.mem_cons_self)).2.1, heap_lt (h (q, f) List.mem_cons_self), BCells.of fun x hx => h x (List.mem_cons_of_mem _ hx)⟩
theorem Bxs.cells {w0 w : World} {l : List (Nat × Fr)} (h : Bxs w0 w l) : BCells w l := BCells.of h.blk
theorem Bxs.drew {w0 w : World} {l : List (Nat × Fr)} (h : Bxs w0 w l) (n : Nat) : Bxs w0 (w.drewN n) l := ⟨below_drewN h.below n, h.blk, h.old, h.ord⟩
theorem box_far {w : World} {p : Addr} {q : Nat} {o : Obj} (h : w.heap[q]? = some o) (hne : q ≠ p.block) (v : Value) : (w.setCell p v).heap[q]? = some o := (Below.heap_setCell w p v q hne).trans h
theorem box_set0 {w : World} {q : Nat} {f : Fr} (h : w.heap[q]? = some (boxF f)) (a : Int) : (w.setCell ⟨q, 0, none⟩ (.int .i64 a)).heap[q]? = some (boxF ⟨a, f.den⟩) := by
  unfold boxF at *
  simp [World.setCell, Array.getElem?_modify, h]
theorem box_set1 {w : World} {q : Nat} {f : Fr} (h : w.heap[q]? = some (boxF f)) (a : Int) : (w.setCell ⟨q, 1, none⟩ (.int .i64 a)).heap[q]? = some (boxF ⟨f.num, a⟩) := by
  unfold boxF at *
  simp [World.setCell, Array.getElem?_modify, h]
theorem Bxs.put0 {w0 w : World} {q : Nat} {f : Fr} {l : List (Nat × Fr)} (h : Bxs w0 w ((q, f) :: l)) (a : Int) : Bxs w0 (w.setCell ⟨q, 0, none⟩ (.int .i64 a)) ((q, ⟨a, f.den⟩) :: l) := by
  have ho := h.ord
  rw [List.pairwise_cons] at ho
  refine ⟨h.below.setCell (h.old (q, f) List.mem_cons_self) _, fun x hx => ?_, fun x hx => ?_, List.pairwise_cons.2 ⟨fun x hx => ho.1 x hx, ho.2⟩⟩
  · rcases List.mem_cons.1 hx with rfl | hx
    · exact box_set0 (h.blk (q, f) List.mem_cons_self) a
    · exact box_far (h.blk x (List.mem_cons_of_mem _ hx)) (Nat.ne_of_lt (ho.1 x hx)) _
  · rcases List.mem_cons.1 hx with rfl | hx
    · exact h.old (q, f) List.mem_cons_self
    · exact h.old x (List.mem_cons_of_mem _ hx)
theorem Bxs.put1 {w0 w : World} {q : Nat} {f : Fr} {l : List (Nat × Fr)} (h : Bxs w0 w ((q, f) :: l)) (a : Int) : Bxs w0 (w.setCell ⟨q, 1, none⟩ (.int .i64 a)) ((q, ⟨f.num, a⟩) :: l) := by
  have ho := h.ord
  rw [List.pairwise_cons] at ho
  refine ⟨h.below.setCell (h.old (q, f) List.mem_cons_self) _, fun x hx => ?_, fun x hx => ?_, List.pairwise_cons.2 ⟨fun x hx => ho.1 x hx, ho.2⟩⟩
  · rcases List.mem_cons.1 hx with rfl | hx
    · exact box_set1 (h.blk (q, f) List.mem_cons_self) a
    · exact box_far (h.blk x (List.mem_cons_of_mem _ hx)) (Nat.ne_of_lt (ho.1 x hx)) _
  · rcases List.mem_cons.1 hx with rfl | hx
    · exact h.old (q, f) List.mem_cons_self
    · exact h.old x (List.mem_cons_of_mem _ hx)
theorem Bxs.put {w0 w : World} {q : Nat} {f : Fr} {l : List (Nat × Fr)} (h : Bxs w0 w ((q, f) :: l)) (a b : Int) : Bxs w0 ((w.setCell ⟨q, 0, none⟩ (.int .i64 a)).setCell ⟨q, 1, none⟩ (.int .i64 b)) ((q, ⟨a, b⟩) :: l) := (h.put0 a).put1 b
theorem Bxs.froz {w0 w : World} {q : Nat} {f : Fr} {l : List (Nat × Fr)} (h : Bxs w0 w ((q, f) :: l)) : w.frozen? ⟨q, 0, none⟩ = false ∧ w.frozen? ⟨q, 1, none⟩ = false := (cells_two (h.blk (q, f) List.mem_cons_self)).2.2
end Go.Proofs.YtjobncfjebkcdaaDoor
