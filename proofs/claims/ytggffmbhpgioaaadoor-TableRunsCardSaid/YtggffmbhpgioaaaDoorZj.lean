/- The walk of Len. -/
import Derived.Test.YtggffmbhpgioaaaDoorZi
namespace Go.Proofs.YtggffmbhpgioaaaDoor
open Go Go.RowKit Go.Shelf
set_option linter.unusedSimpArgs false

/-- how many entries are full -/
def lenF (T : List En) : Nat := T.countP (fun x => x.u)
theorem len_take {T : List En} {k : Nat} {x y : En} (hx : T[2 * k]? = some x) (hy : T[2 * k + 1]? = some y) : lenF (T.take (2 * (k + 1))) = lenF (T.take (2 * k)) + (if x.u then 1 else 0) + (if y.u then 1 else 0) := by
  have h2 := (List.getElem?_eq_some_iff.1 hy)
  have h1 := (List.getElem?_eq_some_iff.1 hx)
  obtain ⟨a1, b1⟩ := h1
  obtain ⟨a2, b2⟩ := h2
  unfold lenF
  rw [show 2 * (k + 1) = 2 * k + 1 + 1 from by omega, List.take_succ_eq_append_getElem a2, List.take_succ_eq_append_getElem a1, b1, b2, List.countP_append, List.countP_append]
  simp
theorem len_le (T : List En) : lenF T ≤ T.length := List.countP_le_length

set_option maxHeartbeats 4000000 in
set_option maxRecDepth 100000 in
theorem len_any (w : World) {bt bs n : Nat} {T : List En} {h m : Int} (t : TabM w bt bs n T h m) :
    Calls Tryd.prog 21 #[.pointer (some ⟨bt, 0, none⟩)] w (OutB w (.int .i64 (lenF T))) := by
  have HT := Lib.hid t
  have hT := t.len
  have hn := t.n1
  have CR := Lib.hid (right_any w t)
  have c0 := t.head.1
  clear t
  go_enter Tryd.func21, Tryd.ntmps21
  go_wp2_with fail
  refine CR.out.mono ?_
  rintro e w1 ⟨rfl, rfl⟩
  go_wp2_with fail
  clear CR c0
  go_loopw [3, 16] (fun s i wr => ∃ k : Nat, k ≤ n ∧ i = .int .i64 k ∧ s = .int .i64 (lenF (T.take (2 * k)) : Nat) ∧ Hid (Below w.heap.size w wr)) (fun _ i _ => n - (intOf i).toNat)
  case atStart => exact ⟨0, Nat.zero_le _, rfl, rfl, Below.refl _ _⟩
  case round =>
    obtain ⟨k, hk, rfl, rfl, HB⟩ := hrel
    have hl := len_le (T.take (2 * k))
    have hl2 : (T.take (2 * k)).length ≤ 2 * k := List.length_take_le _ _
    by_cases hlk : k < n
    rotate_left
    · obtain rfl : k = n := by omega
      have HE := Lib.hid (List.take_of_length_le (l := T) (i := 2 * k) (by omega))
      clear hl hl2
      go_wp2_with fail
      go_ret
      exact ⟨by rw [HE.out]; rfl, HB.out⟩
    obtain ⟨x, hx⟩ : ∃ x, T[2 * k]? = some x := ⟨_, List.getElem?_eq_getElem (by omega)⟩
    obtain ⟨y, hy⟩ : ∃ y, T[2 * k + 1]? = some y := ⟨_, List.getElem?_eq_getElem (by omega)⟩
    have HL := Lib.hid (len_take hx hy)
    have HTR := Lib.hid (HT.out.below HB.out)
    generalize lenF (T.take (2 * k)) = l at *
    have hl3 : l ≤ 8192 := by omega
    clear hl hl2
    obtain ⟨f0, f1, f2, f3, f4, f5, f6⟩ := (HTR.out.two hx hy).fst
    obtain ⟨g0, g1, g2, g3, g4, g5, g6⟩ := (HTR.out.two hx hy).snd
    obtain ⟨c0, -, -, -, -⟩ := HTR.out.head
    obtain ⟨xu, xk, xd, ⟨xa, xb, xc, xe⟩⟩ := x
    obtain ⟨yu, yk, yd, ⟨ya, yb, yc, ye⟩⟩ := y
    have hsz := HB.out.size
    clear hx hy hT
    have HB2 := Lib.hid ((HB.out.alloc hsz (.cells #[.bool xu, .string xk, .int .i64 xd, .int .i64 xa, .int .i64 xb, .int .i64 xc, .int .i64 xe] 76)).alloc (by simp; omega) (.cells #[.bool yu, .string yk, .int .i64 yd, .int .i64 ya, .int .i64 yb, .int .i64 yc, .int .i64 ye] 76))
    simp only at HL
    cases xu <;> cases yu
    focus
      have i0 : ∀ w, (Instr.index 80 (.agg #[.bool false, .string xk, .int .i64 xd, .int .i64 xa, .int .i64 xb, .int .i64 xc, .int .i64 xe, .bool false, .string yk, .int .i64 yd, .int .i64 ya, .int .i64 yb, .int .i64 yc, .int .i64 ye]) (.int .i64 0)).run Tryd.prog w = .ok (.agg #[.bool false, .string xk, .int .i64 xd, .int .i64 xa, .int .i64 xb, .int .i64 xc, .int .i64 xe]) w := fun _ => by kernel_rfl
      have i1 : ∀ w, (Instr.index 80 (.agg #[.bool false, .string xk, .int .i64 xd, .int .i64 xa, .int .i64 xb, .int .i64 xc, .int .i64 xe, .bool false, .string yk, .int .i64 yd, .int .i64 ya, .int .i64 yb, .int .i64 yc, .int .i64 ye]) (.int .i64 1)).run Tryd.prog w = .ok (.agg #[.bool false, .string yk, .int .i64 yd, .int .i64 ya, .int .i64 yb, .int .i64 yc, .int .i64 ye]) w := fun _ => by kernel_rfl
      go_wp2_with fail
      refine wp_loop_rounds 3 ?_
      rw [rounds_succ]
      go_wp2_with fail
      rw [rounds_succ]
      go_wp2_with fail
      rw [rounds_succ]
      go_wp2_with fail
      go_roundw
      case rel => exact ⟨k + 1, by omega, by go_num, by rw [HL.out]; first | rfl | go_num, HB2.out⟩
      case measure => simp [intOf]; omega
    focus
      have i0 : ∀ w, (Instr.index 80 (.agg #[.bool false, .string xk, .int .i64 xd, .int .i64 xa, .int .i64 xb, .int .i64 xc, .int .i64 xe, .bool true, .string yk, .int .i64 yd, .int .i64 ya, .int .i64 yb, .int .i64 yc, .int .i64 ye]) (.int .i64 0)).run Tryd.prog w = .ok (.agg #[.bool false, .string xk, .int .i64 xd, .int .i64 xa, .int .i64 xb, .int .i64 xc, .int .i64 xe]) w := fun _ => by kernel_rfl
      have i1 : ∀ w, (Instr.index 80 (.agg #[.bool false, .string xk, .int .i64 xd, .int .i64 xa, .int .i64 xb, .int .i64 xc, .int .i64 xe, .bool true, .string yk, .int .i64 yd, .int .i64 ya, .int .i64 yb, .int .i64 yc, .int .i64 ye]) (.int .i64 1)).run Tryd.prog w = .ok (.agg #[.bool true, .string yk, .int .i64 yd, .int .i64 ya, .int .i64 yb, .int .i64 yc, .int .i64 ye]) w := fun _ => by kernel_rfl
      go_wp2_with fail
      refine wp_loop_rounds 3 ?_
      rw [rounds_succ]
      go_wp2_with fail
      rw [rounds_succ]
      go_wp2_with fail
      rw [rounds_succ]
      go_wp2_with fail
      go_roundw
      case rel => exact ⟨k + 1, by omega, by go_num, by rw [HL.out]; first | rfl | go_num, HB2.out⟩
      case measure => simp [intOf]; omega
    focus
      have i0 : ∀ w, (Instr.index 80 (.agg #[.bool true, .string xk, .int .i64 xd, .int .i64 xa, .int .i64 xb, .int .i64 xc, .int .i64 xe, .bool false, .string yk, .int .i64 yd, .int .i64 ya, .int .i64 yb, .int .i64 yc, .int .i64 ye]) (.int .i64 0)).run Tryd.prog w = .ok (.agg #[.bool true, .string xk, .int .i64 xd, .int .i64 xa, .int .i64 xb, .int .i64 xc, .int .i64 xe]) w := fun _ => by kernel_rfl
      have i1 : ∀ w, (Instr.index 80 (.agg #[.bool true, .string xk, .int .i64 xd, .int .i64 xa, .int .i64 xb, .int .i64 xc, .int .i64 xe, .bool false, .string yk, .int .i64 yd, .int .i64 ya, .int .i64 yb, .int .i64 yc, .int .i64 ye]) (.int .i64 1)).run Tryd.prog w = .ok (.agg #[.bool false, .string yk, .int .i64 yd, .int .i64 ya, .int .i64 yb, .int .i64 yc, .int .i64 ye]) w := fun _ => by kernel_rfl
      go_wp2_with fail
      refine wp_loop_rounds 3 ?_
      rw [rounds_succ]
      go_wp2_with fail
      rw [rounds_succ]
      go_wp2_with fail
      rw [rounds_succ]
      go_wp2_with fail
      go_roundw
      case rel => exact ⟨k + 1, by omega, by go_num, by rw [HL.out]; first | rfl | go_num, HB2.out⟩
      case measure => simp [intOf]; omega
    focus
      have i0 : ∀ w, (Instr.index 80 (.agg #[.bool true, .string xk, .int .i64 xd, .int .i64 xa, .int .i64 xb, .int .i64 xc, .int .i64 xe, .bool true, .string yk, .int .i64 yd, .int .i64 ya, .int .i64 yb, .int .i64 yc, .int .i64 ye]) (.int .i64 0)).run Tryd.prog w = .ok (.agg #[.bool true, .string xk, .int .i64 xd, .int .i64 xa, .int .i64 xb, .int .i64 xc, .int .i64 xe]) w := fun _ => by kernel_rfl
      have i1 : ∀ w, (Instr.index 80 (.agg #[.bool true, .string xk, .int .i64 xd, .int .i64 xa, .int .i64 xb, .int .i64 xc, .int .i64 xe, .bool true, .string yk, .int .i64 yd, .int .i64 ya, .int .i64 yb, .int .i64 yc, .int .i64 ye]) (.int .i64 1)).run Tryd.prog w = .ok (.agg #[.bool true, .string yk, .int .i64 yd, .int .i64 ya, .int .i64 yb, .int .i64 yc, .int .i64 ye]) w := fun _ => by kernel_rfl
      go_wp2_with fail
      refine wp_loop_rounds 3 ?_
      rw [rounds_succ]
      go_wp2_with fail
      rw [rounds_succ]
      go_wp2_with fail
      rw [rounds_succ]
      go_wp2_with fail
      go_roundw
      case rel => exact ⟨k + 1, by omega, by go_num, by rw [HL.out]; first | rfl | go_num, HB2.out⟩
      case measure => simp [intOf]; omega
end Go.Proofs.YtggffmbhpgioaaaDoor
