/- The law PrinterChecks. -/
import Derived.Test.YthkbnjojkeeffaaDoorHc
namespace Go.Proofs.YthkbnjojkeeffaaDoor
open Go Go.RowKit Go.Shelf
set_option linter.unusedSimpArgs false

set_option maxHeartbeats 8000000 in
set_option maxRecDepth 100000 in
theorem law_checks (w : World) (hW : Wd w) (A : Option Addr) (cp : Nat) (l : List Ru) (ha : SlV RuV 3 w (· < w.heap.size) A l) (hr : ∀ r ∈ l, RuB r) (hlen : l.length ≤ 9223372036854775807) :
    Calls Tryd.prog 5 #[.slice A l.length cp] w (YesP w) := by
  have HW := Lib.hid hW
  have CA := Lib.hid (fun (y : World) (hy : Below w.heap.size w y) => awake_any y (HW.out.below hy HW.out.1))
  have CP := Lib.hid (fun (y : World) (hy : Below w.heap.size w y) => prules_any y (· < w.heap.size) A cp l (ha.keep keeps_ru (fun b hp hb => ⟨hp, hy.block b hb⟩) hy.size) (fun b hp => Nat.lt_of_lt_of_le hp hy.size) hlen hr)
  have CR := Lib.hid (fun (y : World) (hy : Below w.heap.size w y) => rrules_any y (· < w.heap.size) A cp l (ha.keep keeps_ru (fun b hp hb => ⟨hp, hy.block b hb⟩) hy.size) (fun b hp => Nat.lt_of_lt_of_le hp hy.size) hlen hr)
  obtain ⟨xs', hxl, harr, hel⟩ := ha
  have HV := Lib.hid (And.intro hxl (And.intro harr (And.intro hel hr)))
  clear hxl harr hel hr hW
  generalize rulesO l = o at *
  obtain ⟨a, kk⟩ := o
  simp only at CP CR
  generalize bs a = sa at *
  generalize (kk : Int) = kk at *
  by_cases h2 : 200 < l.length
  · have e1 : decide ((200 : Int) < (l.length : Int)) = true := decide_eq_true (by omega)
    go_enter Tryd.func5, Tryd.ntmps5
    go_wp2_with fail
    refine (CA.out w (Below.refl _ _)).mono ?_
    rintro e w1 ⟨rfl, hb⟩
    go_wp2_with fail
    go_ret
    exact ⟨rfl, hb⟩
  have e1 : decide ((200 : Int) < (l.length : Int)) = false := decide_eq_false (by omega)
  go_enter Tryd.func5, Tryd.ntmps5
  go_wp2_with fail
  clear e1 h2
  go_loopw [3] (fun i wr => ∃ k : Nat, k ≤ l.length ∧ i = .int .i64 k ∧ Hid (Below w.heap.size w wr)) (fun i _ => l.length - (intOf i).toNat)
  case atStart => exact ⟨0, Nat.zero_le _, rfl, Below.refl _ _⟩
  case round =>
    obtain ⟨k, hk, rfl, HB0⟩ := hrel
    by_cases hlk : k < l.length
    rotate_left
    focus
      obtain rfl : k = l.length := by omega
      go_wp2_with fail
      refine (CP.out _ HB0.out).mono ?_
      rintro e w1 ⟨rfl, hb⟩
      have HB1 := Lib.hid (HB0.out.trans (hb.mono HB0.out.size))
      clear hb
      go_wp2_with fail
      refine (CR.out _ HB1.out).mono ?_
      rintro e w2 ⟨rfl, hb⟩
      have HB2 := Lib.hid (HB1.out.trans (hb.mono HB1.out.size))
      clear hb
      go_wp2_with fail
      refine (CA.out _ HB2.out).mono ?_
      rintro e w3 ⟨rfl, hb⟩
      have HB3 := Lib.hid (HB2.out.trans (hb.mono HB2.out.size))
      clear hb
      go_wp2_with fail
      go_ret
      exact ⟨rfl, HB3.out⟩
    obtain ⟨r, hr⟩ : ∃ r, l[k]? = some r := ⟨_, List.getElem?_eq_getElem hlk⟩
    obtain ⟨x, hx⟩ : ∃ x, xs'[k]? = some x := ⟨_, List.getElem?_eq_getElem (by rw [HV.out.1]; exact hlk)⟩
    have hv := HV.out.2.2.1 k x r hx hr
    have hrw := HV.out.2.2.2 _ (List.mem_of_getElem? hr)
    obtain ⟨hd, body⟩ := r
    obtain ⟨y', A2, cp2, rfl, hvt, hsl⟩ := hv
    obtain ⟨nm', A', cp', l', rfl, hh⟩ := hvt.form
    simp only at hh hvt hsl
    subst hh
    obtain ⟨b0, o0, rfl, hb0, hbl, hc⟩ := HV.out.2.1 (by rw [HV.out.1]; omega)
    have F := Lib.hid (fun (y : World) (hy : Below w.heap.size w y) => And.intro ((hy.cell (p := ⟨b0, o0 + k * 3, none⟩) hbl).trans (hc k _ hx 0 _ rfl)) (And.intro ((hy.cell (p := ⟨b0, o0 + k * 3 + 1, none⟩) hbl).trans (hc k _ hx 1 _ rfl)) ((hy.cell (p := ⟨b0, o0 + k * 3 + 2, none⟩) hbl).trans (hc k _ hx 2 _ rfl))))
    have CF := Lib.hid (fun (y : World) (hy : Below w.heap.size w y) => few_any y (· < w.heap.size) nm' A' cp' l' A2 cp2 body (hvt.keep (fun b' hp hb' => ⟨hp, hy.block b' hb'⟩) hy.size) (hsl.keep keeps_li (fun b' hp hb' => ⟨hp, hy.block b' hb'⟩) hy.size) hrw.head hrw.len hrw.lits)
    have CV := Lib.hid (fun (y : World) (hy : Below w.heap.size w y) => rvalidx_any y (· < w.heap.size) nm' A' cp' l' A2 cp2 body (hvt.keep (fun b' hp hb' => ⟨hp, hy.block b' hb'⟩) hy.size) (hsl.keep keeps_li (fun b' hp hb' => ⟨hp, hy.block b' hb'⟩) hy.size) (fun b' hp => Nat.lt_of_lt_of_le hp hy.size) hrw.head hrw.len hrw.lits)
    have CU := Lib.hid (fun (y : World) (hy : Below w.heap.size w y) => rrvalidx_any y (· < w.heap.size) nm' A' cp' l' A2 cp2 body (hvt.keep (fun b' hp hb' => ⟨hp, hy.block b' hb'⟩) hy.size) (hsl.keep keeps_li (fun b' hp hb' => ⟨hp, hy.block b' hb'⟩) hy.size) (fun b' hp => Nat.lt_of_lt_of_le hp hy.size) hrw.head hrw.len hrw.lits)
    have hbr := Lib.hid hbl
    have f := F.out wr HB0.out
    have f0 := f.1
    have f1 := f.2.1
    have f2 := f.2.2
    clear hvt hsl hx hc hr hrw f hbl hb0
    generalize ruleOk ⟨.mk nm' l', body⟩ = q at *
    go_wp2_with fail
    refine (CF.out _ HB0.out).mono ?_
    rintro e w1 ⟨q1, rfl, hb⟩
    have HB1 := Lib.hid (HB0.out.trans (hb.mono HB0.out.size))
    clear hb f0 f1 f2
    cases q1
    · go_wp2_with fail
      refine (CA.out _ HB1.out).mono ?_
      rintro e w2 ⟨rfl, hb⟩
      have HB2 := Lib.hid (HB1.out.trans (hb.mono HB1.out.size))
      clear hb
      go_wp2_with fail
      go_ret
      exact ⟨rfl, HB2.out⟩
    have f := F.out w1 HB1.out
    have f0 := f.1
    have f1 := f.2.1
    have f2 := f.2.2
    have hb1 := Nat.lt_of_lt_of_le hbr.out HB1.out.size
    have HC := Lib.hid (And.intro f0 (And.intro f1 (And.intro f2 (And.intro hb1 (And.intro hb1 hb1)))))
    have HR0 := Lib.hid (Below.refl w1.heap.size w1)
    clear f
    go_wp2_with fail
    clear f0 f1 f2 hb1
    go_region_held3 (fun y => y.cell? ⟨b0, o0 + k * 3, none⟩ = some (.string (bs nm')) ∧ y.cell? ⟨b0, o0 + k * 3 + 1, none⟩ = some (.slice A' l'.length cp') ∧ y.cell? ⟨b0, o0 + k * 3 + 2, none⟩ = some (.slice A2 body.length cp2) ∧ Hid (Below w1.heap.size w1 y)) (first | (exact keep3 HC.out (Below.drew HR0.out)) | (exact keep3 HC.out (Below.drew (last3 ‹_ ∧ _ ∧ _ ∧ Hid _›))) | (exact keep3 HC.out (trans5h (Lib.hid (last3 ‹_ ∧ _ ∧ _ ∧ Hid _›)) hb9))) (first | (go_at_call 20; refine (CV.out _ (HB1.out.trans (Below.mono (last3 ‹_ ∧ _ ∧ _ ∧ Hid _›) HB1.out.size))).mono ?_; rintro e9 w9 ⟨rfl, hb9⟩) | (go_at_call 21; refine (CU.out _ (HB1.out.trans (Below.mono (last3 ‹_ ∧ _ ∧ _ ∧ Hid _›) HB1.out.size))).mono ?_; rintro e9 w9 ⟨rfl, hb9⟩))
    go_wp2_with fail
    go_roundw
    case rel => exact ⟨k + 1, by omega, by go_num, HB1.out.trans (Below.mono (last3 ‹_ ∧ _ ∧ _ ∧ Hid _›) HB1.out.size)⟩
    case measure => simp [intOf]; omega
end Go.Proofs.YthkbnjojkeeffaaDoor
