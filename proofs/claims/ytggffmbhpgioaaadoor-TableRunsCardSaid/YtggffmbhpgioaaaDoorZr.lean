/- The walk of the program's Clear; the methods of a table that New did not make. -/
import Derived.Test.YtggffmbhpgioaaaDoorZl
import Derived.Laws.IdiomCopy
namespace Go.Proofs.YtggffmbhpgioaaaDoor
open Go Go.RowKit Go.Shelf
set_option linter.unusedSimpArgs false

def setL : List Value → Nat → List Value → List Value
  | xs, _, [] => xs
  | xs, o, v :: r => setL (xs.set o v) (o + 1) r
theorem setL_get : ∀ (vs xs : List Value) (o j : Nat), (setL xs o vs)[j]? = if o ≤ j ∧ j < o + vs.length ∧ j < xs.length then vs[j - o]? else xs[j]?
  | [], xs, o, j => by rw [setL, if_neg (by simp; omega)]
  | v :: r, xs, o, j => by
    rw [setL, setL_get r (xs.set o v) (o + 1) j]
    rw [List.length_set, List.length_cons]
    by_cases h1 : o + 1 ≤ j ∧ j < o + 1 + r.length ∧ j < xs.length
    · rw [if_pos h1, if_pos (by omega), show j - o = (j - (o + 1)) + 1 from by omega, List.getElem?_cons_succ]
    · rw [if_neg h1]
      by_cases h2 : j = o
      · subst h2
        by_cases h3 : j < xs.length
        · rw [if_pos (by omega), List.getElem?_set_self h3]
          simp
        · rw [if_neg (by omega), List.getElem?_eq_none (by simp; omega), List.getElem?_eq_none (by omega)]
      · rw [List.getElem?_set_ne (Ne.symm h2), if_neg (by omega)]
theorem setL_all (vs xs : List Value) (h : vs.length = xs.length) : setL xs 0 vs = vs := by
  apply List.ext_getElem?
  intro j
  rw [setL_get]
  by_cases hj : j < xs.length
  · rw [if_pos (by omega), Nat.sub_zero]
  · rw [if_neg (by omega), List.getElem?_eq_none (by omega), List.getElem?_eq_none (by omega)]
theorem own_setCells {base : Nat} {e : TypeId} {g n cap sz : Nat} : ∀ (vs : List Value) (o : Nat) (w : World) (xs : List Value), w.ownsRow base e sz (.slice (some ⟨g, 0, none⟩) n cap) n xs →
    (w.setCells g o vs).ownsRow base e sz (.slice (some ⟨g, 0, none⟩) n cap) n (setL xs o vs) ∧ w.grownBy (w.setCells g o vs) (some g)
  | [], o, w, xs, h => ⟨h, World.grownBy.refl _ _⟩
  | v :: r, o, w, xs, h => by
    have h1 := h.stored o v
    have h2 := own_setCells r (o + 1) _ _ h1.1
    exact ⟨h2.1, grown_trans h1.2 h2.2⟩
def zslot : Array Value := #[.bool false, .string ⟨#[]⟩, .int .i64 0, .int .i64 0, .int .i64 0, .int .i64 0, .int .i64 0, .bool false, .string ⟨#[]⟩, .int .i64 0, .int .i64 0, .int .i64 0, .int .i64 0, .int .i64 0]
theorem zero_slots (n : Nat) : (Builtin.zeroCells zslot n).toList = (List.replicate (2 * n) en0).flatMap enCells := by
  rw [← made_slots]
  rfl
theorem rep_one (n : Nat) : ∀ u ∈ (List.replicate n en0).flatMap enCells, u.oneCell' = true := by
  intro u hu
  obtain ⟨x, _, hx⟩ := List.mem_flatMap.1 hu
  simp only [enCells, List.mem_cons, List.not_mem_nil, or_false] at hx
  rcases hx with rfl | rfl | rfl | rfl | rfl | rfl | rfl <;> rfl
theorem run_clr (w : World) {bt bs n : Nat} {T : List En} {h m : Int} (t : TabM w bt bs n T h m) (ty : TypeId) :
    (Builtin.clear_ #[49] ty #[.slice (some ⟨bs, 0, none⟩) n n]).run Tryd.prog w = .ok (.tuple #[]) (w.setCells bs 0 ((List.replicate (2 * n) en0).flatMap enCells)) := by
  have hl : ((List.replicate (2 * n) en0).flatMap enCells).length = n * 14 := by rw [fm_len]; simp; omega
  have hT := t.own.1
  have hst := run_storeCells_cells (P := Tryd.prog) bs 0 ((List.replicate (2 * n) en0).flatMap enCells) 0 w (fun j hj => by
    rw [show 0 + 0 + j = j from by omega, t.own.cellAt j (by omega), List.getElem?_eq_getElem (by omega)]
    rfl) (fun j _ => t.own.frozenAt _) (rep_one _)
  have hz : ∀ w, (zeroValue 80).run Tryd.prog w = .ok (.agg zslot) w := fun w => by kernel_rfl
  obtain ⟨k, rfl⟩ : ∃ k, n = k + 1 := ⟨n - 1, by have := t.n0; omega⟩
  simp only [Nat.add_zero] at hst
  simp [Builtin.clear_, run_underlying Tryd.underlying49, hz, Value.cells, zero_slots, hst]
def ClrP (w : World) (bt bs n : Nat) (h m : Int) (e : Ending) (w' : World) : Prop := e = .returned (.tuple #[]) ∧ TabM w' bt bs n (List.replicate (2 * n) en0) h m ∧ w.grownBy w' (some bs)
set_option maxHeartbeats 2000000 in
set_option maxRecDepth 100000 in
theorem clear_any (w : World) {bt bs n : Nat} {T : List En} {h m : Int} (t : TabM w bt bs n T h m) : Calls Tryd.prog 19 #[.pointer (some ⟨bt, 0, none⟩)] w (ClrP w bt bs n h m) := by
  have c0 := t.head.1
  have hr := run_clr w t
  have CR := Lib.hid (right_any w t)
  have hT := t.own.1
  have ho := own_setCells ((List.replicate (2 * n) en0).flatMap enCells) 0 w _ t.own
  rw [setL_all _ _ (by rw [hT, fm_len]; simp; omega)] at ho
  have HO := Lib.hid ho
  have HT := Lib.hid t
  clear t hT ho
  go_enter Tryd.func19, Tryd.ntmps19
  go_wp2_with fail
  refine CR.out.mono ?_
  rintro e w1 ⟨rfl, rfl⟩
  go_wp2_with fail
  go_end0
  exact ⟨rfl, ⟨(HO.out.2.block bt HT.out.lt.1 (by simpa using HT.out.ne)).trans HT.out.hd, HO.out.1, by simp, HT.out.n0, HT.out.n1, HT.out.ne⟩, HO.out.2⟩

section
variable (w : World) (p : Option Addr) (hr : ∀ w', Below w.heap.size w w' → Calls Tryd.prog 30 #[.pointer p] w' (OutS w' (.bool false)))
include hr
set_option maxHeartbeats 2000000 in
theorem clear_not : Calls Tryd.prog 19 #[.pointer p] w (OutB w (.tuple #[])) := by
  have CR := Lib.hid (hr w (Below.refl _ _))
  clear hr
  go_enter Tryd.func19, Tryd.ntmps19
  go_wp2_with fail
  refine CR.out.mono ?_
  rintro e w1 ⟨rfl, rfl⟩
  go_wp2_with fail
  go_end0
  exact ⟨rfl, Below.refl _ _⟩
set_option maxHeartbeats 2000000 in
theorem len_not : Calls Tryd.prog 21 #[.pointer p] w (OutB w (.int .i64 0)) := by
  have CR := Lib.hid (hr w (Below.refl _ _))
  clear hr
  go_enter Tryd.func21, Tryd.ntmps21
  go_wp2_with fail
  refine CR.out.mono ?_
  rintro e w1 ⟨rfl, rfl⟩
  go_wp2_with fail
  go_ret
  exact ⟨rfl, Below.refl _ _⟩
set_option maxHeartbeats 2000000 in
theorem put_not (key : ByteArray) (d a b c e : Int) : Calls Tryd.prog 15 #[.pointer p, .string key, .int .i64 d, .agg #[.int .i64 a, .int .i64 b, .int .i64 c, .int .i64 e]] w (OutB w (.tuple #[])) := by
  have HW1 := Lib.hid (two_new w (.cells #[.string key] 9) (.cells #[.int .i64 a, .int .i64 b, .int .i64 c, .int .i64 e] 37))
  have CR := Lib.hid hr
  clear hr
  go_enter Tryd.func15, Tryd.ntmps15
  go_wp2_with fail
  generalize (w.alloc (.cells #[.string key] 9)).alloc (.cells #[.int .i64 a, .int .i64 b, .int .i64 c, .int .i64 e] 37) = w1 at *
  refine (CR.out _ HW1.out.1).mono ?_
  rintro e w2 ⟨rfl, rfl⟩
  go_wp2_with fail
  go_end0
  exact ⟨rfl, HW1.out.1⟩
set_option maxHeartbeats 2000000 in
theorem get_not (key : ByteArray) (d : Int) : Calls Tryd.prog 16 #[.pointer p, .string key, .int .i64 d] w (OutB w (.tuple #[.agg #[.int .i64 0, .int .i64 0, .int .i64 0, .int .i64 0], .bool false])) := by
  have HW1 := Lib.hid (three_new w (.cells #[.string key] 9) (.cells #[.int .i64 d] 3) (.cells #[.int .i64 0, .int .i64 0, .int .i64 0, .int .i64 0] 37))
  have CR := Lib.hid hr
  clear hr
  go_enter Tryd.func16, Tryd.ntmps16
  go_wp2_with fail
  generalize ((w.alloc (.cells #[.string key] 9)).alloc (.cells #[.int .i64 d] 3)).alloc (.cells #[.int .i64 0, .int .i64 0, .int .i64 0, .int .i64 0] 37) = w1 at *
  refine (CR.out _ HW1.out.1).mono ?_
  rintro e w2 ⟨rfl, rfl⟩
  have i0 := cell_blk HW1.out.2.2.2 0
  have i1 := cell_blk HW1.out.2.2.2 1
  have i2 := cell_blk HW1.out.2.2.2 2
  have i3 := cell_blk HW1.out.2.2.2 3
  have fr : ∀ o, w1.frozen? ⟨w.heap.size + 2, o, none⟩ = false := fun o => free_blk HW1.out.2.2.2 o
  have hS := storeB_blk HW1.out.2.2.2 bd0
  have hG := grown_storeB w1 (w.heap.size + 2) bd0
  have HE := Lib.hid (And.intro hS (HW1.out.1.grown hG HW1.out.1.size (by simp)))
  unfold storeB bd0 at HE
  simp only at HE
  clear hS hG
  go_wp2_with fail
  generalize (((w1.setCell ⟨w.heap.size + 1 + 1, 0, none⟩ (.int .i64 0)).setCell ⟨w.heap.size + 1 + 1, 1, none⟩ (.int .i64 0)).setCell ⟨w.heap.size + 1 + 1, 2, none⟩ (.int .i64 0)).setCell ⟨w.heap.size + 1 + 1, 3, none⟩ (.int .i64 0) = w6 at *
  have j0 := cell_blk HE.out.1 0
  have j1 := cell_blk HE.out.1 1
  have j2 := cell_blk HE.out.1 2
  have j3 := cell_blk HE.out.1 3
  exact bodyPost_ret (v := .tuple #[.agg #[.int .i64 0, .int .i64 0, .int .i64 0, .int .i64 0], .bool false]) (by simp [results, Tryd.results16, go_sem, j0, j1, j2, j3]) rfl ⟨rfl, HE.out.2⟩
end
end Go.Proofs.YtggffmbhpgioaaaDoor
