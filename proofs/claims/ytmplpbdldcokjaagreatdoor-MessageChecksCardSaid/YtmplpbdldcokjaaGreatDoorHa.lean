/- Terms, literals and rules that came in, with their bulk. -/
import Derived.Test.YtmplpbdldcokjaaGreatDoorRows
import Derived.Test.YtmplpbdldcokjaaGreatDoorOa
import Derived.Test.YtmplpbdldcokjaaGreatDoorXj
import Derived.Deep.Strs
namespace Go.Proofs.YtmplpbdldcokjaaGreatDoor
open Go Go.ChangeShapes Go.WideShapes Go.ChangeAt Go.RowKit Go.Joins Go.Deep
set_option linter.unusedSimpArgs false
set_option maxRecDepth 100000

section
variable {H : Type} {enc : TypeId × Value → H} {P : Program} {w : World}
theorem trod_struct2n {t : TypeId} {f0 f1 : Field} {fuel : Nat} {cs : List Value} {x : DataW H × List MemPlace} {base : Nat} {spare : Nat → Bool} {held : Bool} (ht : P.underlying t = some (.struct #[f0, f1])) (h : DataW.trod enc P w base spare held fuel t cs = some x) :
    ∃ y0 y1 n, fuel = n + 1 ∧ x = (.agg [y0.1, y1.1], y0.2 ++ y1.2) ∧ cs.length = P.cellsOf t ∧ DataW.trod enc P w base spare held n f0.type ((cs.drop f0.offset).take (P.cellsOf f0.type)) = some y0 ∧
      DataW.trod enc P w base spare held n f1.type ((cs.drop f1.offset).take (P.cellsOf f1.type)) = some y1 := by
  obtain ⟨xs, n, hn, rfl, hl, hlen, hf⟩ := DataW.trod_struct ht h
  match xs, hlen with
  | [y0, y1], _ => exact ⟨y0, y1, n, hn, by simp, hl, by simpa using hf 0 f0 rfl, by simpa using hf 1 f1 rfl⟩
theorem bulk_one (d : DataW H) : 1 ≤ Rows.uptoBulk d := by
  cases d with
  | lit l => cases l <;> simp [Rows.uptoBulk]
  | nil => simp [Rows.uptoBulk]
  | ptr d => simp [Rows.uptoBulk]
  | slice elems spare => simp [Rows.uptoBulk]
  | agg parts => simp [Rows.uptoBulk]
  | iface t d => simp [Rows.uptoBulk]
  | map entries => simp [Rows.uptoBulk]
  | held h => simp [Rows.uptoBulk]
/-- A SLICE THAT CAME IN: its elements' cells, each with its reading; their bulk. -/
theorem open_list {t e : TypeId} {C fuel : Nat} {cs : List Value} {x : DataW H × List MemPlace} (ht : P.underlying t = some (.slice e)) (hC : P.cellsOf e = C) (hC0 : 0 < C)
    (hf : DataW.trod enc P w 0 (fun _ => true) true fuel t cs = some x) :
    ∃ (A : Option Addr) (n cap m : Nat) (xs : List (List Value)) (ys : List (DataW H × List MemPlace)), fuel = m + 1 ∧ cs = [.slice A n cap] ∧ xs.length = n ∧ ys.length = n ∧ n ≤ maxLen ∧ Arr w (· < w.heap.size) A C xs ∧ Rows.uptoBulkAll (ys.map (·.1)) + 1 ≤ Rows.uptoBulk x.1 ∧
      ∀ (i : Nat) (x : List Value) (y : DataW H × List MemPlace), xs[i]? = some x → ys[i]? = some y → DataW.trod enc P w 0 (fun _ => true) true m e x = some y := by
  have hpos : ∃ m, fuel = m + 1 := by
    cases fuel with
    | zero => simp [DataW.trod] at hf
    | succ m => exact ⟨m, rfl⟩
  rcases DataW.trod_slice ht hf with ⟨hc, hx⟩ | ⟨a, len, cap, elems, rest, n, hn, hcs, hx, _, hlc, hcm, hlen, hel, _, _⟩
  · obtain ⟨m, hm⟩ := hpos
    exact ⟨none, 0, 0, m, [], [], hm, hc, rfl, rfl, Nat.zero_le _, fun h => by simp at h, by rw [hx]; simp [Rows.uptoBulk, Rows.uptoBulkAll], fun i x y h => by simp at h⟩
  · have hall : ∀ i ∈ List.range len, ∃ x : List Value, x.length = C ∧ (∀ j u, x[j]? = some u → w.cell? ((a.add (i * C)).add j) = some u) ∧ ∃ y, elems[i]? = some y ∧ DataW.trod enc P w 0 (fun _ => true) true n e x = some y := by
      intro i hil
      have hil := List.mem_range.1 hil
      obtain ⟨y, hy⟩ : ∃ y, elems[i]? = some y := ⟨_, List.getElem?_eq_getElem (by omega)⟩
      have hb := (hel i hil).trans hy
      obtain ⟨x, hcx, htx⟩ := Option.bind_eq_some_iff.1 hb
      rw [hC] at hcx
      obtain ⟨_, hl, hat⟩ := World.cells?_some hcx
      refine ⟨x, hl, fun j u hu => ?_, y, hy, htx⟩
      have hj : j < x.length := (List.getElem?_eq_some_iff.1 hu).1
      exact (hat j (by omega)).trans hu
    obtain ⟨xs, hxl, hget⟩ := list_choose (List.range len) hall
    have hxl' : xs.length = len := by simpa using hxl
    have hget' : ∀ (i : Nat) (x : List Value), xs[i]? = some x → x.length = C ∧ (∀ j u, x[j]? = some u → w.cell? ((a.add (i * C)).add j) = some u) ∧ ∃ y, elems[i]? = some y ∧ DataW.trod enc P w 0 (fun _ => true) true n e x = some y := by
      intro i x hx
      have hil : i < xs.length := (List.getElem?_eq_some_iff.1 hx).1
      exact hget i i x (by rw [List.getElem?_range (by omega)]) hx
    refine ⟨some a, len, cap, n, xs, elems, hn, hcs, hxl', hlen, by omega, fun hpos => ?_, ?_, fun i x y hx hy => ?_⟩
    · obtain ⟨x0, hx0⟩ : ∃ x, xs[0]? = some x := ⟨_, List.getElem?_eq_getElem hpos⟩
      obtain ⟨hl0, hc0, _⟩ := hget' 0 x0 hx0
      obtain ⟨u0, hu0⟩ : ∃ u, x0[0]? = some u := ⟨_, List.getElem?_eq_getElem (by omega)⟩
      have h0 := hc0 0 u0 hu0
      obtain ⟨b, o, spot⟩ := a
      have hspot : spot = none := by simpa [Addr.add] using World.cell?_spot h0
      subst hspot
      have hlt : b < w.heap.size := by simpa [Addr.add] using cell_lt h0
      refine ⟨b, o, rfl, hlt, hlt, fun i x hx j u hu => ?_⟩
      have := (hget' i x hx).2.1 j u hu
      rw [add_add] at this
      rw [show (⟨b, o + i * C + j, none⟩ : Addr) = (⟨b, o, none⟩ : Addr).add (i * C + j) from ?_]
      · exact this
      · unfold Addr.add
        by_cases hz : i * C + j = 0
        · rw [if_pos hz]; simp only [Addr.mk.injEq, true_and, and_true]; omega
        · rw [if_neg hz]; simp [Nat.add_assoc]
    · rw [hx]
      simp only [Rows.uptoBulk]
      omega
    · obtain ⟨_, _, y', hy', h3⟩ := hget' i x hx
      rw [hy] at hy'
      cases hy'
      exact h3
end
/-- what each element of two lists of one length gives -/
theorem pairs_choose {α β γ : Type} {R : α → β → γ → Prop} : ∀ (xs : List α) (ys : List β), xs.length = ys.length → (∀ (i : Nat) (x : α) (y : β), xs[i]? = some x → ys[i]? = some y → ∃ c, R x y c) → ∃ l : List γ, l.length = xs.length ∧ ∀ (i : Nat) (x : α) (y : β) (c : γ), xs[i]? = some x → ys[i]? = some y → l[i]? = some c → R x y c
  | [], _, _, _ => ⟨[], rfl, fun i x y c h => by simp at h⟩
  | x :: xs, [], h, _ => by simp at h
  | x :: xs, y :: ys, h, hr => by
    obtain ⟨c, hc⟩ := hr 0 x y rfl rfl
    obtain ⟨l, hl, hall⟩ := pairs_choose xs ys (by simpa using h) (fun i x y hx hy => hr (i + 1) x y (by simpa using hx) (by simpa using hy))
    refine ⟨c :: l, by simp [hl], fun i x' y' c' hx hy hc' => ?_⟩
    cases i with
    | zero => simp at hx hy hc'; subst hx; subst hy; subst hc'; exact hc
    | succ i => exact hall i x' y' c' (by simpa using hx) (by simpa using hy) (by simpa using hc')
theorem bulk_wL {H : Type} : ∀ (l : List Tm) (ys : List (DataW H × List MemPlace)), l.length = ys.length → (∀ (i : Nat) (t : Tm) (y : DataW H × List MemPlace), l[i]? = some t → ys[i]? = some y → wT t + 2 ≤ Rows.uptoBulk y.1) → wL l ≤ Rows.uptoBulkAll (ys.map (·.1))
  | [], _, _, _ => by simp [wL]
  | t :: l, [], h, _ => by simp at h
  | t :: l, y :: ys, h, hr => by
    have h0 := hr 0 t y rfl rfl
    have := bulk_wL l ys (by simpa using h) (fun i t y ht hy => hr (i + 1) t y (by simpa using ht) (by simpa using hy))
    simp only [wL, List.map_cons, Rows.uptoBulkAll]
    omega
theorem bulk_wB {H : Type} : ∀ (l : List Li) (ys : List (DataW H × List MemPlace)), l.length = ys.length → (∀ (i : Nat) (t : Li) (y : DataW H × List MemPlace), l[i]? = some t → ys[i]? = some y → wT t.atom + 4 ≤ Rows.uptoBulk y.1) → wB l ≤ 3 * Rows.uptoBulkAll (ys.map (·.1))
  | [], _, _, _ => by simp [wB]
  | t :: l, [], h, _ => by simp at h
  | t :: l, y :: ys, h, hr => by
    have h0 := hr 0 t y rfl rfl
    have := bulk_wB l ys (by simpa using h) (fun i t y ht hy => hr (i + 1) t y (by simpa using ht) (by simpa using hy))
    have := wT_pos t.atom
    simp only [wB, List.map_cons, Rows.uptoBulkAll]
    omega
theorem maxLen_le {n : Nat} (h : n ≤ maxLen) : n ≤ 9223372036854775807 := by unfold maxLen at h; omega

section
variable {H : Type} {enc : TypeId × Value → H} {w : World}
theorem cStrO : Tryz.prog.cellsOf 9 = 1 := by kernel_rfl
theorem cTermO : Tryz.prog.cellsOf 25 = 2 := by kernel_rfl
theorem cTermsO : Tryz.prog.cellsOf 23 = 1 := by kernel_rfl
theorem cBoolO : Tryz.prog.cellsOf 4 = 1 := by kernel_rfl
/-- a term that came in -/
def TmO (w : World) (x : List Value) (t : Tm) : Prop := TmV w (· < w.heap.size) x t ∧ TmB t
theorem terms_of {m : Nat} (IH : ∀ (x : List Value) (y : DataW H × List MemPlace), DataW.trod enc Tryz.prog w 0 (fun _ => true) true m 25 x = some y → ∃ t, TmO w x t ∧ wT t + 2 ≤ Rows.uptoBulk y.1)
    {c : List Value} {y : DataW H × List MemPlace} (h : DataW.trod enc Tryz.prog w 0 (fun _ => true) true (m + 1) 23 c = some y) :
    ∃ (A : Option Addr) (cap : Nat) (l : List Tm), c = [.slice A l.length cap] ∧ l.length ≤ 9223372036854775807 ∧ SlV TmV 2 w (· < w.heap.size) A l ∧ (∀ t ∈ l, TmB t) ∧ wL l + 1 ≤ Rows.uptoBulk y.1 := by
  obtain ⟨A, n, cap, m', xs, ys, hm, rfl, hxl, hyl, hn, harr, hbk, hel⟩ := open_list Tryz.underlying23 cTermO (by decide) h
  obtain rfl : m' = m := by omega
  obtain ⟨l, hl, hall⟩ := pairs_choose xs ys (by omega) (fun i x y hx hy => IH x y (hel i x y hx hy))
  have hln : l.length = n := by omega
  have hget : ∀ (i : Nat) (t : Tm), l[i]? = some t → ∃ x y, xs[i]? = some x ∧ ys[i]? = some y := by
    intro i t ht
    have hi : i < l.length := (List.getElem?_eq_some_iff.1 ht).1
    exact ⟨_, _, List.getElem?_eq_getElem (by omega), List.getElem?_eq_getElem (by omega)⟩
  refine ⟨A, cap, l, by rw [hln], maxLen_le (by omega), ⟨xs, by omega, harr, fun i x t hx ht => ?_⟩, fun t ht => ?_, ?_⟩
  · obtain ⟨x', y', hx', hy'⟩ := hget i t ht
    exact (hall i x y' t hx hy' ht).1.1
  · obtain ⟨i, hi, rfl⟩ := List.getElem_of_mem ht
    obtain ⟨x', y', hx', hy'⟩ := hget i _ (List.getElem?_eq_getElem hi)
    exact (hall i x' y' _ hx' hy' (List.getElem?_eq_getElem hi)).1.2
  · have := bulk_wL l ys (by omega) (fun i t y ht hy => by
      obtain ⟨x', y', hx', hy'⟩ := hget i t ht
      exact (hall i x' y t hx' hy ht).2)
    omega
theorem tm_cells : ∀ (fuel : Nat) (x : List Value) (y : DataW H × List MemPlace), DataW.trod enc Tryz.prog w 0 (fun _ => true) true fuel 25 x = some y → ∃ t, TmO w x t ∧ wT t + 2 ≤ Rows.uptoBulk y.1 := by
  intro fuel
  induction fuel using Nat.strongRecOn with
  | ind fuel ih =>
  intro x y h
  obtain ⟨y0, y1, n, rfl, rfl, hl, h0, h1⟩ := trod_struct2n Tryz.underlying25 h
  rw [cTermO] at hl
  match x, hl with
  | [c0, c1], _ =>
    rw [cStrO] at h0
    rw [cTermsO] at h1
    obtain ⟨s, e0, hy0, hs⟩ := DataW.trod_string Tryz.underlying9 h0
    simp at e0
    subst e0
    have hn : ∃ m, n = m + 1 := by
      cases n with
      | zero => simp [DataW.trod] at h0
      | succ m => exact ⟨m, rfl⟩
    obtain ⟨m, rfl⟩ := hn
    obtain ⟨A, cap, l, e1, hll, hsl, htb, hbk⟩ := terms_of (fun x y h => ih m (by omega) x y h) h1
    simp at e1
    subst e1
    obtain ⟨xs, hxl, harr, hel⟩ := hsl
    refine ⟨.mk s.data.toList l, ⟨?_, .mk _ _ (by have := maxLen_le hs; simpa using this) hll htb⟩, ?_⟩
    · have := TmV.mk (w := w) (P := (· < w.heap.size)) s.data.toList A cap l xs hxl harr hel
      rwa [bs_toList] at this
    · rw [hy0]
      simp only [Rows.uptoBulk, Rows.uptoBulkAll, wT]
      omega
/-- a list of terms as an argument -/
theorem open_terms {r : Reach} {b0 : Nat} {v : Value} {d : DataW H} {p : List MemPlace} (hv : Value.okWide Tryz.prog w r b0 23 v) (h : DataW.Trod enc Tryz.prog w 0 (fun _ => true) true 23 v d p) :
    ∃ (A : Option Addr) (cap : Nat) (l : List Tm), v = .slice A l.length cap ∧ l.length ≤ 9223372036854775807 ∧ SlV TmV 2 w (· < w.heap.size) A l ∧ (∀ t ∈ l, TmB t) ∧ wL l + 1 ≤ Rows.uptoBulk d := by
  obtain ⟨fuel, hf⟩ := h
  have hn : ∃ m, fuel = m + 1 := by
    cases fuel with
    | zero => simp [DataW.trod] at hf
    | succ m => exact ⟨m, rfl⟩
  obtain ⟨m, rfl⟩ := hn
  obtain ⟨A, cap, l, hc, hrest⟩ := terms_of (fun x y h => tm_cells m x y h) hf
  obtain ⟨a, n, c, hv2⟩ := okWide_slice Tryz.underlying23 hv
  obtain ⟨rfl, rfl, rfl⟩ := array_ext1 hv2 hc
  exact ⟨_, _, l, hv2, hrest⟩
end
end Go.Proofs.YtmplpbdldcokjaaGreatDoor
