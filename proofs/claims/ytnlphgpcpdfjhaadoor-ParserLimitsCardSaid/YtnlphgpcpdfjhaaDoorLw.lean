/- The walks of the laws ParserParses, ParserRules, ParserTerms. -/
import Derived.Test.YtnlphgpcpdfjhaaDoorAw
import Derived.Test.YtnlphgpcpdfjhaaDoorVq
import Derived.Test.YtnlphgpcpdfjhaaDoorWp
import Derived.Test.YtnlphgpcpdfjhaaDoorWq
namespace Go.Proofs.YtnlphgpcpdfjhaaDoor
open Go Go.RowKit
set_option linter.unusedSimpArgs false

def outA {α : Type} (d : α) : Rs α → α
  | .ok a => a
  | .err _ _ => d
def outN {α : Type} : Rs α → Nat
  | .ok _ => 0
  | .err p _ => p
def outE {α : Type} : Rs α → Int
  | .ok _ => 0
  | .err _ e => e
/-- what a whole reading gives, without a case -/
theorem out_un {α : Type} {V : World → (Nat → Prop) → Value → α → Prop} {z : Value} {w w' : World} {r : Rs α} {e : Ending} (d : α) (hz : V w' (fun b => w.heap.size ≤ b) z d) (h : OutP V z w r e w') :
    Below w.heap.size w w' ∧ ∃ v, e = .returned (.tuple #[v, .int .i64 (outN r), .int .i64 (outE r)]) ∧ V w' (fun b => w.heap.size ≤ b) v (outA d r) := by
  obtain ⟨hb, h⟩ := h
  refine ⟨hb, ?_⟩
  cases r with
  | ok a => obtain ⟨v, rfl, hv⟩ := h; exact ⟨v, rfl, hv⟩
  | err p k => subst h; exact ⟨z, rfl, hz⟩
theorem SlV.nil {α : Type} (R : Rdr α) (sz : Nat) (w : World) (P : Nat → Prop) : SlV R sz w P none ([] : List α) := ⟨[], rfl, fun h => absurd h (by simp), by simp⟩
theorem vl_nil {α : Type} (R : Rdr α) (sz : Nat) (w : World) (P : Nat → Prop) : VL R sz w P (.slice none 0 0) ([] : List α) := ⟨none, 0, rfl, SlV.nil R sz w P⟩
def noTm : Tm := .mk [] []
def noRu : Ru := ⟨noTm, []⟩
theorem tm_nil (w : World) (P : Nat → Prop) : TmV w P [.string ⟨#[]⟩, .slice none 0 0] noTm := .mk [] none 0 [] [] rfl (fun h => absurd h (by simp)) (by simp)
theorem vs_tm_nil (w : World) (P : Nat → Prop) : VS TmV w P (.agg #[.string ⟨#[]⟩, .slice none 0 0]) noTm := ⟨[.string ⟨#[]⟩, .slice none 0 0], rfl, tm_nil w P⟩
theorem vs_ru_nil (w : World) (P : Nat → Prop) : VS RuV w P (.agg #[.string ⟨#[]⟩, .slice none 0 0, .slice none 0 0]) noRu :=
  ⟨[.string ⟨#[]⟩, .slice none 0 0, .slice none 0 0], rfl, [.string ⟨#[]⟩, .slice none 0 0], none, 0, rfl, tm_nil w P, SlV.nil _ _ _ _⟩
theorem tms_no : TmS noTm := .mk _ _ (by simp) (by simp)
theorem rus_no : RuS noRu := ⟨tms_no, by simp [noRu], by simp [noRu]⟩

/-- equal lists of rules -/
theorem plRulesV {l : List Ru} (hs : ∀ r ∈ l, RuS r) (hn : l.length < 4611686018427387904) (w : World) (P P' : Nat → Prop) (A B : Option Addr) (c1 c2 : Nat) (hx : SlV RuV 3 w P A l) (hy : SlV RuV 3 w P' B l) :
    Calls Tryd.prog 14 #[.slice A l.length c1, .slice B l.length c2] w (YesP w) := by
  obtain ⟨xs, hxl, hxA, hxt⟩ := hx
  obtain ⟨ys, hyl, hyA, hyt⟩ := hy
  have sh : ∀ {zs : List (List Value)} {Q : Nat → Prop}, zs.length = l.length → (∀ (i : Nat) (x : List Value) (a : Ru), zs[i]? = some x → l[i]? = some a → RuV w Q x a) → ∀ x ∈ zs, ∃ a b c, x = [a, b, c] := by
    intro zs Q hzl hz x hx
    obtain ⟨i, hi, rfl⟩ := List.getElem_of_mem hx
    obtain ⟨nm, A, cap, a, A2, cap2, he, _⟩ := (hz i _ (l[i]'(by omega)) (List.getElem?_eq_getElem hi) (List.getElem?_eq_getElem (by omega))).form
    exact ⟨_, _, _, he⟩
  refine plRules w P P' A B l.length c1 c2 xs ys hxA hyA hxl hyl hn (sh hxl hxt) (sh hyl hyt) (fun i x y hi hj w' hb => ?_)
  have hil : i < l.length := by have := (List.getElem?_eq_some_iff.1 hi).1; omega
  have hl : l[i]? = some (l[i]'hil) := List.getElem?_eq_getElem hil
  exact plRule (hs _ (List.getElem_mem hil)) w' P P' x y (keeps_ru _ _ _ _ _ _ (hxt i x _ hi hl) (fun b hp hlt => ⟨hp, hb.block b hlt⟩) hb.size) (keeps_ru _ _ _ _ _ _ (hyt i y _ hj hl) (fun b hp hlt => ⟨hp, hb.block b hlt⟩) hb.size)
theorem plTermsV {l : List Tm} (hs : ∀ r ∈ l, TmS r) (hn : l.length < 4611686018427387904) (w : World) (P P' : Nat → Prop) (A B : Option Addr) (c1 c2 : Nat) (hx : SlV TmV 2 w P A l) (hy : SlV TmV 2 w P' B l) :
    Calls Tryd.prog 23 #[.slice A l.length c1, .slice B l.length c2] w (YesP w) := by
  obtain ⟨xs, hxl, hxA, hxt⟩ := hx
  obtain ⟨ys, hyl, hyA, hyt⟩ := hy
  have sh : ∀ {zs : List (List Value)} {Q : Nat → Prop}, zs.length = l.length → (∀ (i : Nat) (x : List Value) (a : Tm), zs[i]? = some x → l[i]? = some a → TmV w Q x a) → ∀ x ∈ zs, ∃ a b, x = [a, b] := by
    intro zs Q hzl hz x hx
    obtain ⟨i, hi, rfl⟩ := List.getElem_of_mem hx
    obtain ⟨nm, A, cap, a, he, _⟩ := (hz i _ (l[i]'(by omega)) (List.getElem?_eq_getElem hi) (List.getElem?_eq_getElem (by omega))).form
    exact ⟨_, _, he⟩
  refine plTerms w P P' A B l.length c1 c2 xs ys hxA hyA hxl hyl hn (sh hxl hxt) (sh hyl hyt) (fun i x y hi hj w' hb => ?_)
  have hil : i < l.length := by have := (List.getElem?_eq_some_iff.1 hi).1; omega
  have hl : l[i]? = some (l[i]'hil) := List.getElem?_eq_getElem hil
  exact plTerm (hs _ (List.getElem_mem hil)) w' P P' x y (keeps_tm _ _ _ _ _ _ (hxt i x _ hi hl) (fun b hp hlt => ⟨hp, hb.block b hlt⟩) hb.size) (keeps_tm _ _ _ _ _ _ (hyt i y _ hj hl) (fun b hp hlt => ⟨hp, hb.block b hlt⟩) hb.size)

theorem parse_small (l : List UInt8) : (∀ r ∈ outA [] (parseF l), RuS r) ∧ (outA [] (parseF l)).length ≤ 128 := by
  cases h : parseF l with
  | err p e => simp [outA]
  | ok v =>
    obtain ⟨h1, h2⟩ := parse_valid h
    exact ⟨fun r hr => rus_valid (h2 r hr), h1⟩
theorem rule_small (l : List UInt8) : RuS (outA noRu (ruleRF l)) := by
  cases h : ruleRF l with
  | err p e => exact rus_no
  | ok v => exact rus_valid (ruleRF_valid h)
theorem term_small (l : List UInt8) : TmS (outA noTm (termRF l)) := by
  cases h : termRF l with
  | err p e => exact tms_no
  | ok v => exact tms_valid _ _ (termRF_valid h)
theorem terms_small (l : List UInt8) : (∀ r ∈ outA [] (termsRF l), TmS r) ∧ (outA [] (termsRF l)).length < 20000 := by
  cases h : termsRF l with
  | err p e => simp [outA]
  | ok v =>
    obtain ⟨h1, h2⟩ := termsRF_valid h
    exact ⟨fun r hr => tms_valid _ _ (h2 r hr), h1⟩

set_option maxHeartbeats 4000000 in
set_option maxRecDepth 100000 in
theorem law_parses (w : World) (s : ByteArray) (hs : s.size ≤ 9223372036854775807) (hw : Wd w) : Calls Tryd.prog 3 #[.string s] w (YesP w) := by
  have HW := Lib.hid hw
  clear hw
  by_cases hl : (2000 : Int) < (s.size : Int)
  · go_enter Tryd.func3, Tryd.ntmps3
    go_wp2_with fail
    refine (awake_any w HW.out).mono ?_
    rintro e w1 ⟨rfl, hb⟩
    go_wp2_with fail
    go_ret
    exact ⟨rfl, hb⟩
  · have hl' : decide ((2000 : Int) < (s.size : Int)) = false := by simpa using hl
    clear hl
    have HSM := Lib.hid (parse_small s.data.toList)
    have HP := fun w hw => (parse_any w s hs hw).mono (fun e w' h => out_un ([] : List Ru) (vl_nil RuV 3 _ _) h)
    have HQ := fun w => (refparse_any w s hs).mono (fun e w' h => out_un ([] : List Ru) (vl_nil RuV 3 _ _) h)
    generalize parseF s.data.toList = r at *
    generalize outA [] r = l at *
    generalize outN r = p at *
    generalize outE r = x at *
    have HP := Lib.hid HP
    have HQ := Lib.hid HQ
    go_enter Tryd.func3, Tryd.ntmps3
    go_wp2_with fail
    refine (HP.out w HW.out).mono ?_
    rintro e w1 ⟨hb1, v, rfl, A, cp, rfl, hs1⟩
    have HB1 := Lib.hid hb1
    have HW1 := Lib.hid (HW.out.below hb1 HW.out.1)
    have HS1 := Lib.hid hs1
    clear hb1 hs1 HW
    go_wp2_with fail
    refine (HQ.out w1).mono ?_
    rintro e w2 ⟨hb2, v, rfl, A2, cp2, rfl, hs2⟩
    have HB2 := Lib.hid (HB1.out.trans (hb2.mono HB1.out.size))
    have HW2 := Lib.hid (HW1.out.below hb2 HW1.out.1)
    have HS2 := Lib.hid hs2
    have HS12 := Lib.hid (HS1.out.below keeps_ru hb2)
    clear hb2 hs2 HW1 HB1 HS1
    go_wp2_with fail
    refine (plRulesV HSM.out.1 (by have := HSM.out.2; omega) w2 _ _ A A2 cp cp2 HS12.out HS2.out).mono ?_
    rintro e w3 ⟨rfl, hb3⟩
    have HB3 := Lib.hid (HB2.out.trans (hb3.mono HB2.out.size))
    have HW3 := Lib.hid (HW2.out.below hb3 HW2.out.1)
    clear hb3
    go_wp2_with fail
    refine (awake_any w3 HW3.out).mono ?_
    rintro e w4 ⟨rfl, hb4⟩
    have HB4 := Lib.hid (HB3.out.trans (hb4.mono HB3.out.size))
    clear hb4
    go_wp2_with fail
    go_ret
    exact ⟨rfl, HB4.out⟩
/- BY mk_lw -/

set_option maxHeartbeats 8000000 in
set_option maxRecDepth 100000 in
theorem law_rules (w : World) (s : ByteArray) (hs : s.size ≤ 9223372036854775807) (hw : Wd w) : Calls Tryd.prog 4 #[.string s] w (YesP w) := by
  have HW := Lib.hid hw
  clear hw
  by_cases hl : (2000 : Int) < (s.size : Int)
  · go_enter Tryd.func4, Tryd.ntmps4
    go_wp2_with fail
    refine (awake_any w HW.out).mono ?_
    rintro e w1 ⟨rfl, hb⟩
    go_wp2_with fail
    go_ret
    exact ⟨rfl, hb⟩
  · have hl' : decide ((2000 : Int) < (s.size : Int)) = false := by simpa using hl
    clear hl
    have HSM := Lib.hid (rule_small s.data.toList)
    have HP := fun w hw => (prule_any w s hs hw).mono (fun e w' h => out_un noRu (vs_ru_nil _ _) h)
    have HQ := fun w => (refrule_any w s hs).mono (fun e w' h => out_un noRu (vs_ru_nil _ _) h)
    generalize ruleRF s.data.toList = r at *
    generalize outA noRu r = a at *
    generalize outN r = p at *
    generalize outE r = x at *
    have HP1 := Lib.hid HP
    have HQ1 := Lib.hid HQ
    clear HP HQ
    have HB0 := Lib.hid (Below.refl w.heap.size w)
    have HW0 := Lib.hid HW.out
    go_enter Tryd.func4, Tryd.ntmps4
    go_wp2_with fail

    refine (HP1.out w HW0.out).mono ?_
    rintro e wa ⟨hb1, v, rfl, x, rfl, hs1⟩
    obtain ⟨nm, A, cp, l0, A2, cp2, rfl, _⟩ := hs1.form
    have hba : Below wa.heap.size wa (wa.alloc (.cells #[.string (bs nm), .slice A l0.length cp, .slice A2 a.body.length cp2] 34)) := (Below.refl _ _).alloc (Nat.le_refl _) _
    have HBa := Lib.hid (HB0.out.trans ((hb1.trans (hba.mono hb1.size)).mono HB0.out.size))
    have HWa := Lib.hid (HW0.out.below (hb1.trans (hba.mono hb1.size)) HW0.out.1)
    have HSa := Lib.hid (keeps_ru _ _ _ (fun _ => True) _ _ hs1 (fun b _ hlt => ⟨trivial, hba.block b hlt⟩) hba.size)
    have HXa := Lib.hid (heap_alloc_new wa (.cells #[.string (bs nm), .slice A l0.length cp, .slice A2 a.body.length cp2] 34))
    clear hb1 hba hs1
    go_wp2_with fail
    generalize wa.alloc (.cells #[.string (bs nm), .slice A l0.length cp, .slice A2 a.body.length cp2] 34) = w1 at *
    generalize wa.heap.size = q1 at *
    clear wa
    refine (HQ1.out w1).mono ?_
    rintro e wa ⟨hb1, v, rfl, x, rfl, hs1⟩
    obtain ⟨nm', A', cp', l0', A2', cp2', rfl, _⟩ := hs1.form
    have hba : Below wa.heap.size wa (wa.alloc (.cells #[.string (bs nm'), .slice A' l0'.length cp', .slice A2' a.body.length cp2'] 34)) := (Below.refl _ _).alloc (Nat.le_refl _) _
    have hbb := hb1.trans (hba.mono hb1.size)
    have HBb := Lib.hid (HBa.out.trans (hbb.mono HBa.out.size))
    have HWb := Lib.hid (HWa.out.below hbb HWa.out.1)
    have HSb := Lib.hid (keeps_ru _ _ _ (fun _ => True) _ _ hs1 (fun b _ hlt => ⟨trivial, hba.block b hlt⟩) hba.size)
    have HSa2 := Lib.hid (keeps_ru _ _ _ (fun _ => True) _ _ HSa.out (fun b _ hlt => ⟨trivial, hbb.block b hlt⟩) hbb.size)
    have HXb := Lib.hid (heap_alloc_new wa (.cells #[.string (bs nm'), .slice A' l0'.length cp', .slice A2' a.body.length cp2'] 34))
    have HXa2 := Lib.hid ((hbb.block _ (heap_lt HXa.out)).trans HXa.out)
    have hxa := (hb1.block _ (heap_lt HXa.out)).trans HXa.out
    have hqa := heap_lt hxa
    obtain ⟨v0, v1, v2, fv0, fv1, fv2⟩ := cells_three hxa
    clear fv0 fv1 fv2
    clear hb1 hba hs1 hbb HSa HXa HBa HWa hxa
    go_wp2_with fail
    clear v0 v1 v2 hqa
    generalize wa.alloc (.cells #[.string (bs nm'), .slice A' l0'.length cp', .slice A2' a.body.length cp2'] 34) = w2 at *
    generalize wa.heap.size = r1 at *
    clear wa

    refine (plRule HSM.out w2 _ _ _ _ HSa2.out HSb.out).mono ?_
    rintro e w3 ⟨rfl, hb3⟩
    have HB3 := Lib.hid (HBb.out.trans (hb3.mono HBb.out.size))
    have HW3 := Lib.hid (HWb.out.below hb3 HWb.out.1)
    clear hb3
    go_wp2_with fail

    refine (awake_any w3 HW3.out).mono ?_
    rintro e w4 ⟨rfl, hb4⟩
    have HB4 := Lib.hid (HB3.out.trans (hb4.mono HB3.out.size))
    clear hb4
    go_wp2_with fail
    go_ret
    exact ⟨rfl, HB4.out⟩

set_option maxHeartbeats 8000000 in
set_option maxRecDepth 100000 in
theorem law_terms (w : World) (s : ByteArray) (hs : s.size ≤ 9223372036854775807) (hw : Wd w) : Calls Tryd.prog 5 #[.string s] w (YesP w) := by
  have HW := Lib.hid hw
  clear hw
  by_cases hl : (2000 : Int) < (s.size : Int)
  · go_enter Tryd.func5, Tryd.ntmps5
    go_wp2_with fail
    refine (awake_any w HW.out).mono ?_
    rintro e w1 ⟨rfl, hb⟩
    go_wp2_with fail
    go_ret
    exact ⟨rfl, hb⟩
  · have hl' : decide ((2000 : Int) < (s.size : Int)) = false := by simpa using hl
    clear hl
    have HSM := Lib.hid (term_small s.data.toList)
    have HSN := Lib.hid (terms_small s.data.toList)
    have HP := fun w hw => (pterm_any w s hs hw).mono (fun e w' h => out_un noTm (vs_tm_nil _ _) h)
    have HQ := fun w => (refterm_any w s hs).mono (fun e w' h => out_un noTm (vs_tm_nil _ _) h)
    have HP' := fun w hw => (pterms_any w s hs hw).mono (fun e w' h => out_un ([] : List Tm) (vl_nil TmV 2 _ _) h)
    have HQ' := fun w => (refterms_any w s hs).mono (fun e w' h => out_un ([] : List Tm) (vl_nil TmV 2 _ _) h)
    generalize termRF s.data.toList = r at *
    generalize termsRF s.data.toList = r' at *
    generalize outA noTm r = a at *
    generalize outN r = p at *
    generalize outE r = x at *
    generalize outA [] r' = a2 at *
    generalize outN r' = p2 at *
    generalize outE r' = x2 at *
    have HP1 := Lib.hid HP
    have HQ1 := Lib.hid HQ
    have HP2 := Lib.hid HP'
    have HQ2 := Lib.hid HQ'
    clear HP HQ HP' HQ'
    have HB0 := Lib.hid (Below.refl w.heap.size w)
    have HW0 := Lib.hid HW.out
    go_enter Tryd.func5, Tryd.ntmps5
    go_wp2_with fail

    refine (HP1.out w HW0.out).mono ?_
    rintro e wa ⟨hb1, v, rfl, x, rfl, hs1⟩
    obtain ⟨nm, A, cp, l0, rfl, _⟩ := hs1.form
    have hba : Below wa.heap.size wa (wa.alloc (.cells #[.string (bs nm), .slice A l0.length cp] 31)) := (Below.refl _ _).alloc (Nat.le_refl _) _
    have HBa := Lib.hid (HB0.out.trans ((hb1.trans (hba.mono hb1.size)).mono HB0.out.size))
    have HWa := Lib.hid (HW0.out.below (hb1.trans (hba.mono hb1.size)) HW0.out.1)
    have HSa := Lib.hid (keeps_tm _ _ _ (fun _ => True) _ _ hs1 (fun b _ hlt => ⟨trivial, hba.block b hlt⟩) hba.size)
    have HXa := Lib.hid (heap_alloc_new wa (.cells #[.string (bs nm), .slice A l0.length cp] 31))
    clear hb1 hba hs1
    go_wp2_with fail
    generalize wa.alloc (.cells #[.string (bs nm), .slice A l0.length cp] 31) = w1 at *
    generalize wa.heap.size = q1 at *
    clear wa
    refine (HQ1.out w1).mono ?_
    rintro e wa ⟨hb1, v, rfl, x, rfl, hs1⟩
    obtain ⟨nm', A', cp', l0', rfl, _⟩ := hs1.form
    have hba : Below wa.heap.size wa (wa.alloc (.cells #[.string (bs nm'), .slice A' l0'.length cp'] 31)) := (Below.refl _ _).alloc (Nat.le_refl _) _
    have hbb := hb1.trans (hba.mono hb1.size)
    have HBb := Lib.hid (HBa.out.trans (hbb.mono HBa.out.size))
    have HWb := Lib.hid (HWa.out.below hbb HWa.out.1)
    have HSb := Lib.hid (keeps_tm _ _ _ (fun _ => True) _ _ hs1 (fun b _ hlt => ⟨trivial, hba.block b hlt⟩) hba.size)
    have HSa2 := Lib.hid (keeps_tm _ _ _ (fun _ => True) _ _ HSa.out (fun b _ hlt => ⟨trivial, hbb.block b hlt⟩) hbb.size)
    have HXb := Lib.hid (heap_alloc_new wa (.cells #[.string (bs nm'), .slice A' l0'.length cp'] 31))
    have HXa2 := Lib.hid ((hbb.block _ (heap_lt HXa.out)).trans HXa.out)
    clear hb1 hba hs1 hbb HSa HXa HBa HWa
    go_wp2_with fail
    generalize wa.alloc (.cells #[.string (bs nm'), .slice A' l0'.length cp'] 31) = w2 at *
    generalize wa.heap.size = r1 at *
    clear wa

    refine (HP2.out w2 HWb.out).mono ?_
    rintro e w3 ⟨hb1, v, rfl, A3, cp3, rfl, hs1⟩
    have HB3 := Lib.hid (HBb.out.trans (hb1.mono HBb.out.size))
    have HW3 := Lib.hid (HWb.out.below hb1 HWb.out.1)
    have HS3 := Lib.hid hs1
    have HSa3 := Lib.hid (keeps_tm _ _ _ (fun _ => True) _ _ HSa2.out (fun b _ hlt => ⟨trivial, hb1.block b hlt⟩) hb1.size)
    have HSb3 := Lib.hid (keeps_tm _ _ _ (fun _ => True) _ _ HSb.out (fun b _ hlt => ⟨trivial, hb1.block b hlt⟩) hb1.size)
    have HXa3 := Lib.hid ((hb1.block _ (heap_lt HXa2.out)).trans HXa2.out)
    have HXb3 := Lib.hid ((hb1.block _ (heap_lt HXb.out)).trans HXb.out)
    clear hb1 hs1 HSa2 HSb HXa2 HXb HBb HWb
    go_wp2_with fail
    refine (HQ2.out w3).mono ?_
    rintro e w4 ⟨hb1, v, rfl, A4, cp4, rfl, hs1⟩
    have HB4 := Lib.hid (HB3.out.trans (hb1.mono HB3.out.size))
    have HW4 := Lib.hid (HW3.out.below hb1 HW3.out.1)
    have HS4 := Lib.hid hs1
    have HSa4 := Lib.hid (keeps_tm _ _ _ (fun _ => True) _ _ HSa3.out (fun b _ hlt => ⟨trivial, hb1.block b hlt⟩) hb1.size)
    have HSb4 := Lib.hid (keeps_tm _ _ _ (fun _ => True) _ _ HSb3.out (fun b _ hlt => ⟨trivial, hb1.block b hlt⟩) hb1.size)
    have HXa4 := Lib.hid ((hb1.block _ (heap_lt HXa3.out)).trans HXa3.out)
    have HXb4 := Lib.hid ((hb1.block _ (heap_lt HXb3.out)).trans HXb3.out)
    have HS34 := Lib.hid (HS3.out.below keeps_tm hb1)
    clear hb1 hs1 HSa3 HSb3 HXa3 HXb3 HB3 HW3 HS3
    obtain ⟨v0, v1, _, _⟩ := cells_two HXa4.out
    obtain ⟨y0, y1, _, _⟩ := cells_two HXb4.out
    have hqa := heap_lt HXa4.out
    have hqb := heap_lt HXb4.out
    go_wp2_with fail
    refine (plTerm HSM.out w4 _ _ _ _ HSa4.out HSb4.out).mono ?_
    rintro e w5 ⟨rfl, hb1⟩
    have HB5 := Lib.hid (HB4.out.trans (hb1.mono HB4.out.size))
    have HW5 := Lib.hid (HW4.out.below hb1 HW4.out.1)
    have HS35 := Lib.hid (HS34.out.below keeps_tm hb1)
    have HS45 := Lib.hid (HS4.out.below keeps_tm hb1)
    clear hb1 v0 v1 y0 y1 hqa hqb
    go_wp2_with fail
    refine (plTermsV HSN.out.1 (by have := HSN.out.2; omega) w5 _ _ A3 A4 cp3 cp4 HS35.out HS45.out).mono ?_
    rintro e w6 ⟨rfl, hb1⟩
    have HB6 := Lib.hid (HB5.out.trans (hb1.mono HB5.out.size))
    have HW6 := Lib.hid (HW5.out.below hb1 HW5.out.1)
    clear hb1
    go_wp2_with fail

    refine (awake_any w6 HW6.out).mono ?_
    rintro e w7 ⟨rfl, hb7⟩
    have HB7 := Lib.hid (HB6.out.trans (hb7.mono HB6.out.size))
    clear hb7
    go_wp2_with fail
    go_ret
    exact ⟨rfl, HB7.out⟩
end Go.Proofs.YtnlphgpcpdfjhaaDoor
