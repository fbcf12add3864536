/- A slice of operations that came in. -/
import Derived.Test.YtggffmbhpgioaaaDoorCk
import Derived.Test.YtggffmbhpgioaaaDoorZt
import Derived.Deep.Strs
namespace Go.Proofs.YtggffmbhpgioaaaDoor
open Go Go.ChangeShapes Go.WideShapes Go.ChangeAt Go.RowKit Go.Joins Go.Deep

section
variable {H : Type} {enc : TypeId × Value → H} {w : World}
theorem cOp : Tryd.prog.cellsOf 39 = 7 := by kernel_rfl
theorem cBd : Tryd.prog.cellsOf 37 = 4 := by kernel_rfl
theorem cFr : Tryd.prog.cellsOf 35 = 2 := by kernel_rfl
theorem cSt : Tryd.prog.cellsOf 9 = 1 := by kernel_rfl
theorem fr_cells {f : Nat} {x : List Value} {y : DataW H × List MemPlace} (hl : x.length = 2) (h : DataW.trod enc Tryd.prog w 0 (fun _ => true) true f 35 x = some y) : ∃ a b : Int, x = [.int .i64 a, .int .i64 b] := by
  obtain ⟨y0, y1, n, _, _, h0, h1⟩ := trod_struct2 Tryd.underlying35 h
  match x, hl with
  | [c0, c1], _ =>
    rw [cInt] at h0 h1
    obtain ⟨a, e0, _, wa⟩ := DataW.trod_int Tryd.underlying3 h0
    obtain ⟨b, e1, _, wb⟩ := DataW.trod_int Tryd.underlying3 h1
    simp at e0 e1
    subst e0 e1
    exact ⟨a, b, rfl⟩
theorem bd_cells {f : Nat} {x : List Value} {y : DataW H × List MemPlace} (hl : x.length = 4) (h : DataW.trod enc Tryd.prog w 0 (fun _ => true) true f 37 x = some y) : ∃ a b c d : Int, x = [.int .i64 a, .int .i64 b, .int .i64 c, .int .i64 d] := by
  obtain ⟨y0, y1, n, _, _, h0, h1⟩ := trod_struct2 Tryd.underlying37 h
  match x, hl with
  | [c0, c1, c2, c3], _ =>
    rw [cFr] at h0 h1
    obtain ⟨a, b, e0⟩ := fr_cells (by rfl) h0
    obtain ⟨c, d, e1⟩ := fr_cells (by rfl) h1
    simp at e0 e1
    exact ⟨a, b, c, d, by simp [e0, e1]⟩
theorem op_cells {f : Nat} {x : List Value} {y : DataW H × List MemPlace} (hl : x.length = 7) (h : DataW.trod enc Tryd.prog w 0 (fun _ => true) true f 39 x = some y) : ∃ t : Op1, x = opCells t := by
  obtain ⟨y0, y1, y2, y3, n, _, _, h0, h1, h2, h3⟩ := trod_struct4 Tryd.underlying39 h
  match x, hl with
  | [c0, c1, c2, c3, c4, c5, c6], _ =>
    rw [cInt] at h0 h2
    rw [cSt] at h1
    rw [cBd] at h3
    obtain ⟨a, e0, _, _⟩ := DataW.trod_int Tryd.underlying3 h0
    obtain ⟨b, e1, _, _⟩ := DataW.trod_string Tryd.underlying9 h1
    obtain ⟨c, e2, _, _⟩ := DataW.trod_int Tryd.underlying3 h2
    obtain ⟨d0, d1, d2, d3, e3⟩ := bd_cells (by rfl) h3
    simp at e0 e1 e2 e3
    exact ⟨⟨a, b, c, ⟨d0, d1, d2, d3⟩⟩, by simp [opCells, e0, e1, e2, e3]⟩
theorem open_ops {r : Reach} {b0 : Nat} {v : Value} {d : DataW H} {p : List MemPlace} (hv : Value.okWide Tryd.prog w r b0 28 v) (h : DataW.Trod enc Tryd.prog w 0 (fun _ => true) true 28 v d p) :
    ∃ (A : Option Addr) (cap : Nat) (l : List Op1), v = .slice A l.length cap ∧ l.length ≤ 9223372036854775807 ∧ OpS w A l := by
  obtain ⟨A, n, cap, xs, rfl, hxl, hn, harr, hel⟩ := open_arr Tryd.underlying28 cOp (by decide) hv h
  obtain ⟨l, hl, hall⟩ := list_choose (R := fun x (t : Op1) => x = opCells t) xs (fun x hx => by
    obtain ⟨h1, f, y, h2⟩ := hel x hx
    exact op_cells h1 h2)
  have hln : l.length = n := by omega
  refine ⟨A, cap, l, by rw [hln], by unfold maxLen at hn; omega, fun hp => ?_⟩
  obtain ⟨b, o, hA, hlt, hc⟩ := harr (by omega)
  refine ⟨b, o, hA, hlt, fun i t ht => ?_⟩
  have hi : i < l.length := (List.getElem?_eq_some_iff.1 ht).1
  have hx : xs[i]? = some (xs[i]'(by omega)) := List.getElem?_eq_getElem (by omega)
  have hz := hall i _ t hx ht
  rw [hz] at hx
  exact ⟨hc i _ hx 0 _ rfl, hc i _ hx 1 _ rfl, hc i _ hx 2 _ rfl, hc i _ hx 3 _ rfl, hc i _ hx 4 _ rfl, hc i _ hx 5 _ rfl, hc i _ hx 6 _ rfl⟩
end
end Go.Proofs.YtggffmbhpgioaaaDoor
