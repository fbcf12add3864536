/- The walk of the reference's Format. -/
import Derived.Test.YthkbnjojkeeffaaDoorXk
import Derived.Test.YthkbnjojkeeffaaDoorWq
namespace Go.Proofs.YthkbnjojkeeffaaDoor
open Go Go.RowKit Go.Shelf
set_option linter.unusedSimpArgs false

set_option maxHeartbeats 4000000 in
set_option maxRecDepth 100000 in
theorem rformat_any (w : World) (s : ByteArray) (hs : s.size ≤ 9223372036854775807) (hl : ∀ l, parseF s.data.toList = .ok l → l.length ≤ 128 ∧ ∀ r ∈ l, RuB r) (hk : ∀ p k, parseF s.data.toList = .err p k → k ≠ 0) :
    Calls Tryd.prog 25 #[.string s] w (OutB w (.tuple #[.string (bs (fmtO s.data.toList).1), .int .i64 (fmtO s.data.toList).2.1, .int .i64 (fmtO s.data.toList).2.2])) := by
  have CP := Lib.hid (refparse_any w s hs)
  have HR : Hid (∀ a (b : Nat) (c : Int), fmtO s.data.toList = (a, b, c) → Ending.returned (Value.tuple #[.string (bs a), .int .i64 b, .int .i64 c]) = Ending.returned (Value.tuple #[.string (bs (fmtO s.data.toList).1), .int .i64 (fmtO s.data.toList).2.1, .int .i64 (fmtO s.data.toList).2.2])) := fun a b c h => by rw [h]
  cases hp : parseF s.data.toList with
  | err p k =>
    have hk0 := hk p k hp
    have HF := Lib.hid (HR.out [] p k (by unfold fmtO; rw [hp]))
    rw [hp] at CP
    clear hp hl hk HR
    have e1 : ((k : Int) == 0) = false := by simp; omega
    have e2 : decide ((k : Int) = 0) = false := decide_eq_false (by omega)
    go_enter Tryd.func25, Tryd.ntmps25
    go_wp2_with fail
    refine CP.out.mono ?_
    rintro e w1 ⟨hb, he⟩
    subst he
    have HB := Lib.hid hb
    clear hb CP
    go_wp2_with fail
    go_ret3
    exact ⟨HF.out, HB.out⟩
  | ok l =>
    have HL := Lib.hid (hl l hp)
    have HF := Lib.hid (HR.out (rulesO l).1 0 (rulesO l).2 (by unfold fmtO; rw [hp]))
    rw [hp] at CP
    clear hp hl hk HR
    go_enter Tryd.func25, Tryd.ntmps25
    go_wp2_with fail
    refine CP.out.mono ?_
    rintro e w1 ⟨hb, v, he, A, cp, rfl, hsl⟩
    subst he
    have HB := Lib.hid hb
    have CR := Lib.hid (rrules_any w1 (fun b => w.heap.size ≤ b ∧ b < w1.heap.size) A cp l (hsl.keep keeps_ru (fun b h1 h2 => ⟨⟨h1, h2⟩, rfl⟩) (Nat.le_refl _)) (fun b h => h.2) (Nat.le_trans HL.out.1 (by omega)) HL.out.2)
    clear hb CP hsl
    go_wp2_with fail
    refine CR.out.mono ?_
    rintro e w2 ⟨rfl, hb⟩
    have HB2 := Lib.hid (HB.out.trans (hb.mono HB.out.size))
    clear hb
    go_wp2_with fail
    go_ret3
    exact ⟨HF.out, HB2.out⟩
end Go.Proofs.YthkbnjojkeeffaaDoor
