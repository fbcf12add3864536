/- A slice of tokens that came in. -/
import Derived.Test.YtmpdnmnimdkfnaaDoorCa
import Derived.Test.YtmpdnmnimdkfnaaDoorOa
import Derived.Test.YtmpdnmnimdkfnaaDoorTj
import Derived.Deep.Strs
namespace Go.Proofs.YtmpdnmnimdkfnaaDoor
open Go Go.ChangeShapes Go.WideShapes Go.ChangeAt Go.RowKit Go.Joins Go.Deep

section
variable {H : Type} {enc : TypeId × Value → H} {w : World}
theorem cTok : Tryd.prog.cellsOf 30 = 3 := by kernel_rfl
theorem tok_cells {f : Nat} {x : List Value} {y : DataW H × List MemPlace} (hl : x.length = 3) (h : DataW.trod enc Tryd.prog w 0 (fun _ => true) true f 30 x = some y) : ∃ (t : Tok) (z : Int), x = [.int .i64 t.kind, .string (bs t.text), .int .i64 z] := by
  obtain ⟨y0, y1, y2, n, _, _, h0, h1, h2⟩ := trod_struct3 Tryd.underlying30 h
  have hc : Tryd.prog.cellsOf 3 = 1 := by kernel_rfl
  have hs : Tryd.prog.cellsOf 9 = 1 := by kernel_rfl
  match x, hl with
  | [c0, c1, c2], _ =>
    rw [hc] at h0 h2
    rw [hs] at h1
    obtain ⟨a, e0, _, _⟩ := DataW.trod_int Tryd.underlying3 h0
    obtain ⟨b, e1, _, _⟩ := DataW.trod_string Tryd.underlying9 h1
    obtain ⟨c, e2, _, _⟩ := DataW.trod_int Tryd.underlying3 h2
    simp at e0 e1 e2
    subst e0 e1 e2
    exact ⟨⟨a, b.data.toList, 0⟩, c, rfl⟩
theorem open_toks {r : Reach} {b0 : Nat} {v : Value} {d : DataW H} {p : List MemPlace} (hv : Value.okWide Tryd.prog w r b0 23 v) (h : DataW.Trod enc Tryd.prog w 0 (fun _ => true) true 23 v d p) :
    ∃ (A : Option Addr) (cap : Nat) (l : List Tok), v = .slice A l.length cap ∧ l.length ≤ 9223372036854775807 ∧ TkJ w A l := by
  obtain ⟨A, n, cap, xs, rfl, hxl, hn, harr, hel⟩ := open_arr Tryd.underlying23 cTok (by decide) hv h
  obtain ⟨l, hl, hall⟩ := list_choose (R := fun x (t : Tok) => ∃ z : Int, x = [.int .i64 t.kind, .string (bs t.text), .int .i64 z]) xs (fun x hx => by
    obtain ⟨h1, f, y, h2⟩ := hel x hx
    exact tok_cells h1 h2)
  have hln : l.length = n := by omega
  refine ⟨A, cap, l, by rw [hln], by unfold maxLen at hn; omega, fun hp => ?_⟩
  obtain ⟨b, o, hA, hlt, hc⟩ := harr (by omega)
  refine ⟨b, o, hA, hlt, fun i t ht => ?_⟩
  have hi : i < l.length := (List.getElem?_eq_some_iff.1 ht).1
  have hx : xs[i]? = some (xs[i]'(by omega)) := List.getElem?_eq_getElem (by omega)
  obtain ⟨z, hz⟩ := hall i _ t hx ht
  rw [hz] at hx
  exact ⟨hc i _ hx 0 _ rfl, hc i _ hx 1 _ rfl, z, hc i _ hx 2 _ rfl⟩
end
end Go.Proofs.YtmpdnmnimdkfnaaDoor
