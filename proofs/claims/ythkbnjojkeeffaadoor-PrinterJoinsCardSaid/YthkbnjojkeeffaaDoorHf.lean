/- The laws PrinterBack and PrinterTwice. -/
import Derived.Test.YthkbnjojkeeffaaDoorXp
import Derived.Test.YthkbnjojkeeffaaDoorGt
import Derived.Test.YthkbnjojkeeffaaDoorXv
import Derived.Test.YthkbnjojkeeffaaDoorXv
namespace Go.Proofs.YthkbnjojkeeffaaDoor
open Go Go.RowKit Go.Shelf
set_option linter.unusedSimpArgs false

/-- what Rules gives -/
theorem rulesO_cases (l : List Ru) : (∃ k : Nat, k ≠ 0 ∧ rulesO l = ([], k)) ∨ (rulesO l = (rulesT l, 0) ∧ l.length ≤ 128 ∧ (∀ r ∈ l, ruleV r) ∧ (rulesT l).length ≤ 16384 ∧ parseF (rulesT l) = .ok l ∧ fmtO (rulesT l) = (rulesT l, 0, 0)) := by
  by_cases h1 : 128 < l.length
  · exact .inl ⟨2, by decide, by unfold rulesO; rw [if_pos h1]⟩
  cases h2 : l.all ruleOk with
  | false => exact .inl ⟨13, by decide, by unfold rulesO; rw [if_neg h1, if_pos h2]⟩
  | true =>
    by_cases h3 : 16384 < (rulesT l).length
    · exact .inl ⟨2, by decide, by unfold rulesO; rw [if_neg h1, if_neg (by rw [h2]; decide), if_pos h3]⟩
    · have ho : rulesO l = (rulesT l, 0) := by unfold rulesO; rw [if_neg h1, if_neg (by rw [h2]; decide), if_neg h3]
      have hv : ∀ r ∈ l, ruleV r := fun r hr => (ruleOk_iff r).1 (List.all_eq_true.1 h2 r hr)
      have hp := parse_back hv (by omega) (by omega)
      refine .inr ⟨ho, by omega, hv, by omega, hp, ?_⟩
      unfold fmtO
      rw [hp]
      simp only
      rw [ho]
      rfl
/-- what Format gives -/
theorem fmtO_cases (s : List UInt8) : (∃ (p : Nat) (k : Int), k ≠ 0 ∧ fmtO s = ([], p, k)) ∨ ∃ l, parseF s = .ok l ∧ fmtO s = (rulesT l, 0, 0) ∧ l.length ≤ 128 ∧ (∀ r ∈ l, ruleV r) ∧ (rulesT l).length ≤ 16384 ∧ parseF (rulesT l) = .ok l ∧ fmtO (rulesT l) = (rulesT l, 0, 0) := by
  cases hp : parseF s with
  | err p k => exact .inl ⟨p, k, nz_parse hp, by unfold fmtO; rw [hp]⟩
  | ok l =>
    rcases rulesO_cases l with ⟨k, hk, ho⟩ | ⟨ho, h1, h2, h3, h4, h5⟩
    · exact .inl ⟨0, k, by omega, by unfold fmtO; rw [hp]; simp only; rw [ho]⟩
    · exact .inr ⟨l, rfl, by unfold fmtO; rw [hp]; simp only; rw [ho]; rfl, h1, h2, h3, h4, h5⟩

set_option maxHeartbeats 8000000 in
set_option maxRecDepth 100000 in
theorem law_twice (w : World) (s : ByteArray) (hs : s.size ≤ 9223372036854775807) (hw : Wd w) : Calls Tryd.prog 8 #[.string s] w (YesP w) := by
  have HW := Lib.hid hw
  clear hw
  by_cases hl : (2000 : Int) < (s.size : Int)
  · go_enter Tryd.func8, Tryd.ntmps8
    go_wp2_with fail
    refine (awake_any w HW.out).mono ?_
    rintro e w1 ⟨rfl, hb⟩
    go_wp2_with fail
    go_ret
    exact ⟨rfl, hb⟩
  have hl' : decide ((2000 : Int) < (s.size : Int)) = false := by simpa using hl
  clear hl
  have CF := Lib.hid (fun (y : World) (hy : Below w.heap.size w y) => format_any y s hs (HW.out.below hy HW.out.1) (fun l h => parsed_ok h) (fun p k h => nz_parse h))
  have CA := Lib.hid (fun (y : World) (hy : Below w.heap.size w y) => awake_any y (HW.out.below hy HW.out.1))
  rcases fmtO_cases s.data.toList with ⟨p, k, hk, ho⟩ | ⟨l, hp, ho, h128, hv, h16, hp2, ho2⟩
  · rw [ho] at CF
    simp only at CF
    rw [show bs [] = ⟨#[]⟩ from rfl] at CF
    have e1 : (k == 0) = false := by simpa using hk
    have e2 : (k != 0) = true := by simpa using hk
    generalize (p : Int) = p at *
    clear ho hk
    go_enter Tryd.func8, Tryd.ntmps8
    go_wp2_with fail
    refine (CF.out w (Below.refl _ _)).mono ?_
    rintro e w1 ⟨rfl, hb⟩
    have HB := Lib.hid hb
    clear hb CF
    go_wp2_with fail
    refine (CA.out _ HB.out).mono ?_
    rintro e w3 ⟨rfl, hb⟩
    have HB3 := Lib.hid (HB.out.trans (hb.mono HB.out.size))
    clear hb
    go_wp2_with fail
    go_ret
    exact ⟨rfl, HB3.out⟩
  · have CF2 := Lib.hid (fun (y : World) (hy : Below w.heap.size w y) => format_any y (bs (rulesT l)) (by rw [size_bs]; omega) (HW.out.below hy HW.out.1) (fun l h => parsed_ok h) (fun p k h => nz_parse h))
    have CP := Lib.hid (fun (y : World) (hy : Below w.heap.size w y) => parse_any y s hs (HW.out.below hy HW.out.1))
    have CP2 := Lib.hid (fun (y : World) (hy : Below w.heap.size w y) => parse_any y (bs (rulesT l)) (by rw [size_bs]; omega) (HW.out.below hy HW.out.1))
    rw [ho] at CF
    rw [toList_bs, ho2] at CF2
    rw [hp] at CP
    rw [toList_bs, hp2] at CP2
    simp only at CF CF2
    have HL := Lib.hid (And.intro (show ∀ r ∈ l, RuS r from fun r hr => rus_valid (hv r hr)) h128)
    clear ho ho2 hp hp2 hv h128 h16
    generalize bs (rulesT l) = t at *
    go_enter Tryd.func8, Tryd.ntmps8
    go_wp2_with fail
    refine (CF.out w (Below.refl _ _)).mono ?_
    rintro e w1 ⟨rfl, hb⟩
    have HB := Lib.hid hb
    clear hb CF
    go_wp2_with fail
    refine (CF2.out _ HB.out).mono ?_
    rintro e w2 ⟨rfl, hb⟩
    have HB2 := Lib.hid (HB.out.trans (hb.mono HB.out.size))
    clear hb HB CF2
    go_wp2_with fail
    refine (CP.out _ HB2.out).mono ?_
    rintro e w3 ⟨hb, v, he, A, cp, rfl, hsl⟩
    subst he
    have HB3 := Lib.hid (HB2.out.trans (hb.mono HB2.out.size))
    have HS3 := Lib.hid hsl
    clear hb HB2 CP hsl
    go_wp2_with fail
    refine (CP2.out _ HB3.out).mono ?_
    rintro e w4 ⟨hb, v, he, A4, cp4, rfl, hsl⟩
    subst he
    have HB4 := Lib.hid (HB3.out.trans (hb.mono HB3.out.size))
    have HS4 := Lib.hid hsl
    have CL := Lib.hid (plRulesV HL.out.1 (by have := HL.out.2; omega) w4 (fun _ => True) (fun _ => True) A A4 cp cp4 (HS3.out.keep keeps_ru (fun b hp hlt => ⟨trivial, hb.block b hlt⟩) hb.size) (hsl.keep keeps_ru (fun b hp hlt => ⟨trivial, rfl⟩) (Nat.le_refl _)))
    clear hb HB3 CP2 hsl HS3
    go_wp2_with fail
    refine CL.out.mono ?_
    rintro e w5 ⟨rfl, hb⟩
    have HB5 := Lib.hid (HB4.out.trans (hb.mono HB4.out.size))
    clear hb
    go_wp2_with fail
    refine (CA.out _ HB5.out).mono ?_
    rintro e w6 ⟨rfl, hb⟩
    have HB6 := Lib.hid (HB5.out.trans (hb.mono HB5.out.size))
    clear hb
    go_wp2_with fail
    go_ret
    exact ⟨rfl, HB6.out⟩

set_option maxHeartbeats 8000000 in
set_option maxRecDepth 100000 in
theorem law_back (w : World) (hW : Wd w) (A : Option Addr) (cp : Nat) (l : List Ru) (ha : SlV RuV 3 w (· < w.heap.size) A l) (hr : ∀ r ∈ l, RuB r) (hlen : l.length ≤ 9223372036854775807) :
    Calls Tryd.prog 7 #[.slice A l.length cp] w (YesP w) := by
  have HW := Lib.hid hW
  have CA := Lib.hid (fun (y : World) (hy : Below w.heap.size w y) => awake_any y (HW.out.below hy HW.out.1))
  have CR := Lib.hid (fun (y : World) (hy : Below w.heap.size w y) => prules_any y (· < w.heap.size) A cp l (ha.keep keeps_ru (fun b hp hb => ⟨hp, hy.block b hb⟩) hy.size) (fun b hp => Nat.lt_of_lt_of_le hp hy.size) hlen hr)
  have CF2 := Lib.hid (fun (y : World) (hy : Below w.heap.size w y) (hsz : (rulesT l).length ≤ 16384) => format_any y (bs (rulesT l)) (by rw [size_bs]; omega) (HW.out.below hy HW.out.1) (fun l h => parsed_ok h) (fun p k h => nz_parse h))
  have CP2 := Lib.hid (fun (y : World) (hy : Below w.heap.size w y) (hsz : (rulesT l).length ≤ 16384) => parse_any y (bs (rulesT l)) (by rw [size_bs]; omega) (HW.out.below hy HW.out.1))
  have HO := Lib.hid (rulesO_cases l)
  have HSL := Lib.hid ha
  rw [toList_bs] at CF2 CP2
  obtain ⟨xs', hxl, harr, hel⟩ := ha
  have HV := Lib.hid (And.intro hxl (And.intro harr (And.intro hel hr)))
  clear hxl harr hel hr hW
  by_cases h2 : 200 < l.length
  · have e1 : decide ((200 : Int) < (l.length : Int)) = true := decide_eq_true (by omega)
    go_enter Tryd.func7, Tryd.ntmps7
    go_wp2_with fail
    refine (CA.out w (Below.refl _ _)).mono ?_
    rintro e w1 ⟨rfl, hb⟩
    go_wp2_with fail
    go_ret
    exact ⟨rfl, hb⟩
  have e1 : decide ((200 : Int) < (l.length : Int)) = false := decide_eq_false (by omega)
  go_enter Tryd.func7, Tryd.ntmps7
  go_wp2_with fail
  clear e1 h2
  go_loopw [3] (fun i wr => ∃ k : Nat, k ≤ l.length ∧ i = .int .i64 k ∧ Hid (Below w.heap.size w wr)) (fun i _ => l.length - (intOf i).toNat)
  case atStart => exact ⟨0, Nat.zero_le _, rfl, Below.refl _ _⟩
  case round =>
    obtain ⟨k, hk, rfl, HB0⟩ := hrel
    by_cases hlk : k < l.length
    rotate_left
    focus
      obtain rfl : k = l.length := by omega
      rcases HO.out with ⟨kk, hkk, ho⟩ | ⟨ho, h128, hv, h16, hp2, ho2⟩
      · rw [ho] at CR
        simp only at CR
        rw [show bs [] = ⟨#[]⟩ from rfl] at CR
        have e1 : ((kk : Int) == 0) = false := by simpa using hkk
        have e2 : ((kk : Int) != 0) = true := by simpa using hkk
        clear ho hkk HO
        generalize (kk : Int) = kk at *
        go_wp2_with fail
        refine (CR.out _ HB0.out).mono ?_
        rintro e w1 ⟨rfl, hb⟩
        have HB1 := Lib.hid (HB0.out.trans (hb.mono HB0.out.size))
        clear hb
        go_wp2_with fail
        refine (CA.out _ HB1.out).mono ?_
        rintro e w3 ⟨rfl, hb⟩
        have HB3 := Lib.hid (HB1.out.trans (hb.mono HB1.out.size))
        clear hb
        go_wp2_with fail
        go_ret
        exact ⟨rfl, HB3.out⟩
      · have CF3 := Lib.hid (fun (y : World) (hy : Below w.heap.size w y) => CF2.out y hy h16)
        have CP3 := Lib.hid (fun (y : World) (hy : Below w.heap.size w y) => CP2.out y hy h16)
        rw [ho] at CR
        rw [ho2] at CF3
        rw [hp2] at CP3
        simp only at CR CF3
        have HL := Lib.hid (And.intro (show ∀ r ∈ l, RuS r from fun r hr => rus_valid (hv r hr)) h128)
        clear ho ho2 hp2 hv h128 h16 HO CF2 CP2
        generalize bs (rulesT l) = t at *
        go_wp2_with fail
        refine (CR.out _ HB0.out).mono ?_
        rintro e w1 ⟨rfl, hb⟩
        have HB1 := Lib.hid (HB0.out.trans (hb.mono HB0.out.size))
        clear hb
        go_wp2_with fail
        refine (CP3.out _ HB1.out).mono ?_
        rintro e w2 ⟨hb, v, he, A4, cp4, rfl, hsl⟩
        subst he
        have HB2 := Lib.hid (HB1.out.trans (hb.mono HB1.out.size))
        have HS2 := Lib.hid hsl
        clear hb hsl
        go_wp2_with fail
        refine (CF3.out _ HB2.out).mono ?_
        rintro e w3 ⟨rfl, hb⟩
        have HB3 := Lib.hid (HB2.out.trans (hb.mono HB2.out.size))
        have CL := Lib.hid (plRulesV HL.out.1 (by have := HL.out.2; omega) w3 (fun _ => True) (fun _ => True) A A4 cp cp4 (HSL.out.keep keeps_ru (fun b hp hlt => ⟨trivial, HB3.out.block b hlt⟩) HB3.out.size) (HS2.out.keep keeps_ru (fun b hp hlt => ⟨trivial, hb.block b hlt⟩) hb.size))
        clear hb
        go_wp2_with fail
        refine CL.out.mono ?_
        rintro e w4 ⟨rfl, hb⟩
        have HB4 := Lib.hid (HB3.out.trans (hb.mono HB3.out.size))
        clear hb
        go_wp2_with fail
        refine (CA.out _ HB4.out).mono ?_
        rintro e w5 ⟨rfl, hb⟩
        have HB5 := Lib.hid (HB4.out.trans (hb.mono HB4.out.size))
        clear hb
        go_wp2_with fail
        go_ret
        exact ⟨rfl, HB5.out⟩
    obtain ⟨r, hr⟩ : ∃ r, l[k]? = some r := ⟨_, List.getElem?_eq_getElem hlk⟩
    obtain ⟨x, hx⟩ : ∃ x, xs'[k]? = some x := ⟨_, List.getElem?_eq_getElem (by rw [HV.out.1]; exact hlk)⟩
    have hv := HV.out.2.2.1 k x r hx hr
    have hrw := HV.out.2.2.2 _ (List.mem_of_getElem? hr)
    obtain ⟨hd, body⟩ := r
    obtain ⟨y', A2, cp2, rfl, hvt, hsl⟩ := hv
    obtain ⟨nm', A', cp', l', rfl, hh⟩ := hvt.form
    simp only at hh hvt hsl
    subst hh
    obtain ⟨b0, o0, rfl, hb0, hbl, hc⟩ := HV.out.2.1 (by rw [HV.out.1]; omega)
    have f0 := (HB0.out.cell (p := ⟨b0, o0 + k * 3, none⟩) hbl).trans (hc k _ hx 0 _ rfl)
    have f1 := (HB0.out.cell (p := ⟨b0, o0 + k * 3 + 1, none⟩) hbl).trans (hc k _ hx 1 _ rfl)
    have f2 := (HB0.out.cell (p := ⟨b0, o0 + k * 3 + 2, none⟩) hbl).trans (hc k _ hx 2 _ rfl)
    have CF := Lib.hid (few_any wr (· < w.heap.size) nm' A' cp' l' A2 cp2 body (hvt.keep (fun b' hp hb' => ⟨hp, HB0.out.block b' hb'⟩) HB0.out.size) (hsl.keep keeps_li (fun b' hp hb' => ⟨hp, HB0.out.block b' hb'⟩) HB0.out.size) hrw.head hrw.len hrw.lits)
    clear hvt hsl hx hc hr hrw hbl hb0 HO
    go_wp2_with fail
    refine CF.out.mono ?_
    rintro e w1 ⟨q1, rfl, hb⟩
    have HB1 := Lib.hid (HB0.out.trans (hb.mono HB0.out.size))
    clear hb f0 f1 f2
    cases q1
    · go_wp2_with fail
      refine (CA.out _ HB1.out).mono ?_
      rintro e w2 ⟨rfl, hb⟩
      have HB2 := Lib.hid (HB1.out.trans (hb.mono HB1.out.size))
      clear hb
      go_wp2_with fail
      go_ret
      exact ⟨rfl, HB2.out⟩
    · go_wp2_with fail
      go_roundw
      case rel => exact ⟨k + 1, by omega, by go_num, HB1.out⟩
      case measure => simp [intOf]; omega
end Go.Proofs.YthkbnjojkeeffaaDoor
