/- parser.Parse, Rule, Term, Terms. -/
import Derived.Test.YthkbnjojkeeffaaDoorRq
namespace Go.Proofs.YthkbnjojkeeffaaDoor
open Go Go.RowKit
set_option linter.unusedSimpArgs false

set_option maxHeartbeats 2000000 in
theorem parse_any (w : World) (s : ByteArray) (hs : s.size ≤ 9223372036854775807) (hw : Wd w) :
    Calls Tryd.prog 26 #[.string s] w (OutP (VL RuV 3) (.slice none 0 0) w (parseF s.data.toList)) := by
  have HR := Lib.hid (read_parse w s hs hw)
  go_enter Tryd.func26, Tryd.ntmps26
  go_wp2_with fail
  refine HR.out.mono ?_
  rintro e w1 ⟨hb, he⟩
  have HB := Lib.hid hb
  cases hr : parseF s.data.toList with
  | err p k =>
    rw [show readF _ s.data.toList = _ from hr] at he
    have HF := Lib.hid hr
    clear hr hb
    subst he
    go_wp2_with fail
    refine bodyPost_ret (v := .tuple #[.slice none 0 0, .int .i64 p, .int .i64 k]) (by simp [results, Tryd.results26, go_sem]) rfl ⟨HB.out, ?_⟩
    rw [HF.out]
  | ok a =>
    rw [show readF _ s.data.toList = _ from hr] at he
    have HF := Lib.hid hr
    clear hr hb
    obtain ⟨v, rfl, hv⟩ := he
    have HV := Lib.hid hv
    clear hv
    go_wp2_with fail
    refine bodyPost_ret (v := .tuple #[v, .int .i64 0, .int .i64 0]) (by simp [results, Tryd.results26, go_sem]) rfl ⟨HB.out, ?_⟩
    rw [HF.out]
    exact ⟨v, rfl, HV.out⟩

set_option maxHeartbeats 4000000 in
theorem prule_any (w : World) (s : ByteArray) (hs : s.size ≤ 9223372036854775807) (hw : Wd w) :
    Calls Tryd.prog 28 #[.string s] w (OutP (VS RuV) (.agg #[.string ⟨#[]⟩, .slice none 0 0, .slice none 0 0]) w (ruleRF s.data.toList)) := by
  have hb0 : Below w.heap.size w (w.alloc (.cells #[.string ⟨#[]⟩, .slice none 0 0, .slice none 0 0] 27)) := (Below.refl _ _).alloc (Nat.le_refl _) _
  have HR := Lib.hid (read_rule (w.alloc (.cells #[.string ⟨#[]⟩, .slice none 0 0, .slice none 0 0] 27)) s hs (hw.below hb0 hw.1))
  have HB0 := Lib.hid hb0
  have HRES := Lib.hid (heap_alloc_new w (.cells #[.string ⟨#[]⟩, .slice none 0 0, .slice none 0 0] 27))
  have hs0 : (w.alloc (.cells #[.string ⟨#[]⟩, .slice none 0 0, .slice none 0 0] 27)).heap.size = w.heap.size + 1 := by simp
  clear hb0
  go_enter Tryd.func28, Tryd.ntmps28
  go_wp2_with fail
  generalize w.alloc (.cells #[.string ⟨#[]⟩, .slice none 0 0, .slice none 0 0] 27) = w0 at *
  refine HR.out.mono ?_
  rintro e w1 ⟨hb, he⟩
  have HB := Lib.hid hb
  obtain ⟨a, aa, ab, y, yy, yz⟩ := cells_three ((hb.block _ (heap_lt HRES.out)).trans HRES.out)
  have HB2 := Lib.hid (HB0.out.trans (hb.mono (by omega)))
  cases hr : ruleRF s.data.toList with
  | err p k =>
    rw [show readF _ s.data.toList = _ from hr] at he
    have HF := Lib.hid hr
    clear hr hb
    subst he
    go_wp2_with fail
    refine bodyPost_ret (v := .tuple #[.agg #[.string ⟨#[]⟩, .slice none 0 0, .slice none 0 0], .int .i64 p, .int .i64 k]) (by simp [results, Tryd.results28, go_sem, a, aa, ab]) rfl ⟨(below_set (below_set (below_set HB2.out _ _ _ (Nat.le_refl _)) _ _ _ (Nat.le_refl _)) _ _ _ (Nat.le_refl _)), ?_⟩
    rw [HF.out]
  | ok l =>
    rw [show readF _ s.data.toList = _ from hr] at he
    have HF := Lib.hid hr
    clear hr
    have hsz := hb.size
    clear hb
    obtain ⟨v, rfl, x, rfl, hv⟩ := he
    obtain ⟨nm, A, cp, a0, A2, cap2, rfl, _⟩ := hv.form
    have HV := Lib.hid hv
    clear hv
    go_wp2_with fail
    refine bodyPost_ret (v := .tuple #[.agg #[.string (bs nm), .slice A a0.length cp, .slice A2 l.body.length cap2], .int .i64 0, .int .i64 0]) (by simp [results, Tryd.results28, go_sem, a, aa, ab]) rfl ⟨(below_set (below_set (below_set HB2.out _ _ _ (Nat.le_refl _)) _ _ _ (Nat.le_refl _)) _ _ _ (Nat.le_refl _)), ?_⟩
    rw [HF.out]
    exact ⟨_, rfl, [.string (bs nm), .slice A a0.length cp, .slice A2 l.body.length cap2], rfl, keeps_ru _ _ _ _ _ _ HV.out (fun b hb hlt => ⟨by omega, ((Below.heap_setCell _ _ _ _ (by simp; omega)).trans ((Below.heap_setCell _ _ _ _ (by simp; omega)).trans (Below.heap_setCell _ _ _ _ (by simp; omega))))⟩) (by simp)⟩

end Go.Proofs.YthkbnjojkeeffaaDoor
