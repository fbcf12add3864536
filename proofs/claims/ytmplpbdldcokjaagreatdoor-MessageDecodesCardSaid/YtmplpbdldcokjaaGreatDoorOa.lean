/- What came in: slices as lists of cells; arguments read again behind the call. -/
import Derived.Test.YtmplpbdldcokjaaGreatDoorProg
import Derived.WalkKit
import Derived.ProofKit
import Derived.OpenShut
import Derived.LaidMore
import Derived.Lib.LaidU8
import Derived.Lib.SmallJoins
import Derived.WideKeyArgs
import Derived.Deep.Slices
import Derived.Below
namespace Go.Proofs.YtmplpbdldcokjaaGreatDoor
open Go Go.ChangeShapes Go.WideShapes Go.ChangeAt Go.RowKit Go.Joins Go.Deep

theorem list_choose {α β : Type} {R : α → β → Prop} : ∀ (xs : List α), (∀ x ∈ xs, ∃ b, R x b) → ∃ l : List β, l.length = xs.length ∧ ∀ (i : Nat) (x : α) (b : β), xs[i]? = some x → l[i]? = some b → R x b
  | [], _ => ⟨[], rfl, fun i x b h => by simp at h⟩
  | x :: xs, h => by
    obtain ⟨b, hb⟩ := h x List.mem_cons_self
    obtain ⟨l, hl, hall⟩ := list_choose xs fun y hy => h y (List.mem_cons_of_mem _ hy)
    refine ⟨b :: l, by simp [hl], fun i y c hy hc => ?_⟩
    cases i with
    | zero => simp at hy hc; subst hy; subst hc; exact hb
    | succ i => exact hall i y c (by simpa using hy) (by simpa using hc)
theorem array_ext1 {v : Value} {a : Option Addr} {n c : Nat} (h : v = .slice a n c) {a' : Option Addr} {n' c' : Nat} (h2 : v.cells.toList = [.slice a' n' c']) : a = a' ∧ n = n' ∧ c = c' := by
  subst h
  simpa [Value.cells] using h2

/-- the cells of the elements of a slice at address A, C cells each -/
def ArrO (w : World) (A : Option Addr) (C : Nat) (xs : List (List Value)) : Prop :=
  0 < xs.length → ∃ b o, A = some ⟨b, o, none⟩ ∧ b < w.heap.size ∧ ∀ (i : Nat) (x : List Value), xs[i]? = some x → ∀ (j : Nat) (u : Value), x[j]? = some u → w.cell? ⟨b, o + i * C + j, none⟩ = some u

theorem cell_lt {w : World} {a : Addr} {u : Value} (h : w.cell? a = some u) : a.block < w.heap.size := by
  rcases Nat.lt_or_ge a.block w.heap.size with hl | hl
  · exact hl
  · simp [World.cell?, Array.getElem?_eq_none hl] at h

section
variable {H : Type} {enc : TypeId × Value → H} {P : Program} {w : World}
/-- A SLICE THAT CAME IN: its elements' cells, each with its reading. -/
theorem open_cells {t e : TypeId} {C fuel : Nat} {cs : List Value} {x : DataW H × List MemPlace} (ht : P.underlying t = some (.slice e)) (hC : P.cellsOf e = C) (hC0 : 0 < C)
    (hf : DataW.trod enc P w 0 (fun _ => true) true fuel t cs = some x) :
    ∃ (A : Option Addr) (n cap : Nat) (xs : List (List Value)), cs = [.slice A n cap] ∧ xs.length = n ∧ n ≤ maxLen ∧ ArrO w A C xs ∧ ∀ x ∈ xs, x.length = C ∧ ∃ (f : Nat) (y : DataW H × List MemPlace), DataW.trod enc P w 0 (fun _ => true) true f e x = some y := by
  rcases open_slice ht hf with ⟨hc, _⟩ | ⟨a, len, cap, m, n, D, Pl, hcs, _, hlc, hcm, hm, _, hi⟩
  · exact ⟨none, 0, 0, [], hc, rfl, Nat.zero_le _, fun h => by simp at h, fun x hx => by cases hx⟩
  · simp only [if_true] at hm
    have hel : ∀ i ∈ List.range len, ∃ x : List Value, x.length = C ∧ (∀ j u, x[j]? = some u → w.cell? ((a.add (i * C)).add j) = some u) ∧ ∃ (f : Nat) (y : DataW H × List MemPlace), DataW.trod enc P w 0 (fun _ => true) true f e x = some y := by
      intro i hil
      have hil := List.mem_range.1 hil
      obtain ⟨x, hcx, htx⟩ := hi i (by omega)
      rw [hC] at hcx
      obtain ⟨_, hl, hat⟩ := World.cells?_some hcx
      refine ⟨x, hl, fun j u hu => ?_, n, _, htx⟩
      have hj : j < x.length := (List.getElem?_eq_some_iff.1 hu).1
      exact (hat j (by omega)).trans hu
    obtain ⟨xs, hxl, hall⟩ := list_choose (List.range len) hel
    have hxl' : xs.length = len := by simpa using hxl
    have hget : ∀ (i : Nat) (x : List Value), xs[i]? = some x → x.length = C ∧ (∀ j u, x[j]? = some u → w.cell? ((a.add (i * C)).add j) = some u) ∧ ∃ (f : Nat) (y : DataW H × List MemPlace), DataW.trod enc P w 0 (fun _ => true) true f e x = some y := by
      intro i x hx
      have hil : i < xs.length := (List.getElem?_eq_some_iff.1 hx).1
      exact hall i i x (by rw [List.getElem?_range (by omega)]) hx
    refine ⟨some a, len, cap, xs, hcs, hxl', by omega, fun hpos => ?_, fun x hx => ?_⟩
    · obtain ⟨x0, hx0⟩ : ∃ x, xs[0]? = some x := ⟨_, List.getElem?_eq_getElem hpos⟩
      obtain ⟨hl0, hc0, _⟩ := hget 0 x0 hx0
      obtain ⟨u0, hu0⟩ : ∃ u, x0[0]? = some u := ⟨_, List.getElem?_eq_getElem (by omega)⟩
      have h0 := hc0 0 u0 hu0
      obtain ⟨b, o, spot⟩ := a
      have hspot : spot = none := by simpa [Addr.add] using World.cell?_spot h0
      subst hspot
      refine ⟨b, o, rfl, by simpa [Addr.add] using cell_lt h0, fun i x hx j u hu => ?_⟩
      have := (hget i x hx).2.1 j u hu
      rw [add_add] at this
      rw [show (⟨b, o + i * C + j, none⟩ : Addr) = (⟨b, o, none⟩ : Addr).add (i * C + j) from ?_]
      · exact this
      · unfold Addr.add
        by_cases hz : i * C + j = 0
        · rw [if_pos hz]; simp only [Addr.mk.injEq, true_and, and_true]; omega
        · rw [if_neg hz]; simp [Nat.add_assoc]
    · obtain ⟨i, hi, rfl⟩ := List.getElem_of_mem hx
      obtain ⟨h1, _, h3⟩ := hget i _ (List.getElem?_eq_getElem hi)
      exact ⟨h1, h3⟩
theorem open_arr {t e : TypeId} {C : Nat} {r : Reach} {b0 : Nat} {v : Value} {d : DataW H} {p : List MemPlace} (ht : P.underlying t = some (.slice e)) (hC : P.cellsOf e = C) (hC0 : 0 < C)
    (hv : Value.okWide P w r b0 t v) (h : DataW.Trod enc P w 0 (fun _ => true) true t v d p) :
    ∃ (A : Option Addr) (n cap : Nat) (xs : List (List Value)), v = .slice A n cap ∧ xs.length = n ∧ n ≤ maxLen ∧ ArrO w A C xs ∧ ∀ x ∈ xs, x.length = C ∧ ∃ (f : Nat) (y : DataW H × List MemPlace), DataW.trod enc P w 0 (fun _ => true) true f e x = some y := by
  obtain ⟨fuel, hf⟩ := h
  obtain ⟨A, n, cap, xs, hc, hrest⟩ := open_cells ht hC hC0 hf
  obtain ⟨a, l, c, hv2⟩ := okWide_slice ht hv
  obtain ⟨rfl, rfl, rfl⟩ := array_ext1 hv2 hc
  exact ⟨_, _, _, xs, hv2, hrest⟩

theorem same_of_below {B : Nat} {w' : World} (h : Below B w w') {p : MemPlace} (hp : p.block < B) : w.sameAt w' p := by
  cases p with
  | cell b off => exact h.cell (p := ⟨b, off, none⟩) hp
  | map b => exact h.block b hp
/-- An argument reads behind the call as it read before. -/
theorem read_again {t : TypeId} (hl : laidOutB P = true) (hr : P.readableRec t = true) (hrow : decide (t < P.types.size) = true) {W' : World} {sp' : Nat → Bool} {v : Value} {d : DataW H} {ps : List MemPlace}
    (h : DataW.Trod enc P w 0 (fun _ => true) true t v d ps) (hb : Below w.heap.size w W') (hlt : ∀ p ∈ ps, p.block < w.heap.size) (hs : ∀ p ∈ ps, sp' p.block = true) : DataW.Trod enc P W' 0 sp' true t v d ps :=
  WideElems.Trod_stays hl hr (of_decide_eq_true hrow) h (fun p hp => same_of_below hb (hlt p hp)) hs

/-- 'post_of_same' where only 'Below' is known of the new world. -/
theorem post_of_below2 {f : Func} {s : ChangeSpec} {apart fresh handsOn again : Bool} {W W' : World} {args : Array Value} {v : Value} {ds gs : List (DataW H)} {before pa pv : List MemPlace}
    (hW : DataW.Whole enc P f.params.toList s.vars apart W args.toList ds gs before)
    (hres : ∀ (b : Nat) (sp : Nat → Bool) (hd : Bool), DataW.TrodAll enc P W' b sp hd f.resultTypes.toList (v.resultList f.resultTypes.size) (s.fn H (ds ++ gs)).results [])
    (hargs : ∀ sp : Nat → Bool, (∀ p ∈ before, sp p.block = true) → DataW.TrodAll enc P W' 0 sp true f.params.toList args.toList (s.fn H (ds ++ gs)).args pa)
    (hvars : ∀ sp : Nat → Bool, (∀ p ∈ before, sp p.block = true) → DataW.TrodVars enc P W' sp s.vars (s.fn H (ds ++ gs)).vars pv)
    (hps : before = pa ++ pv) (hb : Below W.heap.size W W')
    (hok : ∀ (j : Nat) (t : TypeId) (r : Value), f.resultTypes[j]? = some t → (v.resultList f.resultTypes.size)[j]? = some r → Value.okWide P W' .any 0 t r) :
    s.post enc P f apart fresh handsOn again W args v W' := by
  have hlt : ∀ p ∈ before, p.block < W.heap.size := fun p hp => hW.lt p hp
  have hold : ∀ p ∈ before, (fun b => decide (b < W.heap.size)) p.block = true := fun p hp => by simpa using hlt p hp
  refine ⟨ds, gs, before, [], pa, pv, hW, hres _ _ _, hargs _ hold, hvars _ hold, World.keptBut_mono (fun p hp => ⟨hp, ?_⟩) (hb.frame (· ∈ before)), fun _ => ?_⟩
  · rw [hps, List.mem_append] at hp
    exact Or.inr hp
  · obtain ⟨_, _, _, _, _, hz, hn⟩ := hW
    refine ⟨hok, _, _, ([] ++ pa) ++ pv, ⟨[] ++ pa, pv, trodAll_append (hargs _ (fun _ _ => rfl)) (hres _ _ _), hvars _ (fun _ _ => rfl), rfl, ?_, ?_⟩, ?_⟩
    · intro b off hp
      have hin : MemPlace.cell b off ∈ before := by rw [hps]; simpa using hp
      rw [hb.frozen (hlt _ hin)]
      exact hz b off hin
    · intro ha
      have := hn ha
      rw [hps] at this
      simpa using this
    · intro p hp _
      rw [hps]
      simpa using hp
end
end Go.Proofs.YtmplpbdldcokjaaGreatDoor
