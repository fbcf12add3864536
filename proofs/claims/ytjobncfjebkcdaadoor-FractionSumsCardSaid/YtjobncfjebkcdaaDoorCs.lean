/- A slice of fractions that came in. -/
import Derived.Test.YtjobncfjebkcdaaDoorCf
import Derived.Test.YtjobncfjebkcdaaDoorOa
import Derived.Test.YtjobncfjebkcdaaDoorFs
namespace Go.Proofs.YtjobncfjebkcdaaDoor
open Go Go.ChangeShapes Go.WideShapes Go.ChangeAt Go.RowKit Go.Joins Go.Deep

section
variable {H : Type} {enc : TypeId × Value → H} {w : World}
theorem frac_cells {f : Nat} {x : List Value} {y : DataW H × List MemPlace} (hl : x.length = 2) (h : DataW.trod enc Tryd.prog w 0 (fun _ => true) true f 23 x = some y) : ∃ g : Fr, x = [.int .i64 g.num, .int .i64 g.den] ∧ FI g := by
  obtain ⟨y0, y1, n, _, _, h0, h1⟩ := trod_struct2 Tryd.underlying23 h
  have hc : Tryd.prog.cellsOf 3 = 1 := by kernel_rfl
  match x, hl with
  | [c0, c1], _ =>
    rw [hc] at h0 h1
    obtain ⟨a, e0, _, wa⟩ := DataW.trod_int Tryd.underlying3 h0
    obtain ⟨b, e1, _, wb⟩ := DataW.trod_int Tryd.underlying3 h1
    simp at e0 e1
    subst e0 e1
    exact ⟨⟨a, b⟩, rfl, i64_of_wf wa, i64_of_wf wb⟩
theorem open_fracs {r : Reach} {b0 : Nat} {v : Value} {d : DataW H} {p : List MemPlace} (hv : Value.okWide Tryd.prog w r b0 37 v) (h : DataW.Trod enc Tryd.prog w 0 (fun _ => true) true 37 v d p) :
    ∃ (A : Option Addr) (cap : Nat) (l : List Fr), v = .slice A l.length cap ∧ l.length ≤ 9223372036854775807 ∧ (∀ x ∈ l, FI x) ∧ FrS w A l := by
  obtain ⟨A, n, cap, xs, rfl, hxl, hn, harr, hel⟩ := open_arr Tryd.underlying37 cFrac (by decide) hv h
  obtain ⟨l, hl, hall⟩ := list_choose (R := fun x g => x = [.int .i64 g.num, .int .i64 g.den] ∧ FI g) xs (fun x hx => by
    obtain ⟨h1, f, y, h2⟩ := hel x hx
    exact frac_cells h1 h2)
  have hln : l.length = n := by omega
  have hget : ∀ (i : Nat) (f : Fr), l[i]? = some f → ∃ x, xs[i]? = some x ∧ x = [.int .i64 f.num, .int .i64 f.den] ∧ FI f := by
    intro i f hf
    have hi : i < l.length := (List.getElem?_eq_some_iff.1 hf).1
    have hx : xs[i]? = some (xs[i]'(by omega)) := List.getElem?_eq_getElem (by omega)
    exact ⟨_, hx, hall i _ f hx hf⟩
  refine ⟨A, cap, l, by rw [hln], by unfold maxLen at hn; omega, fun x hx => ?_, fun hp => ?_⟩
  · obtain ⟨i, hi, rfl⟩ := List.getElem_of_mem hx
    obtain ⟨_, _, _, h⟩ := hget i _ (List.getElem?_eq_getElem hi)
    exact h
  · obtain ⟨b, o, hA, hlt, hc⟩ := harr (by omega)
    refine ⟨b, o, hA, hlt, fun i f hf => ?_⟩
    obtain ⟨x, hx, rfl, _⟩ := hget i f hf
    exact ⟨hc i _ hx 0 _ rfl, hc i _ hx 1 _ rfl⟩
end
end Go.Proofs.YtjobncfjebkcdaaDoor
