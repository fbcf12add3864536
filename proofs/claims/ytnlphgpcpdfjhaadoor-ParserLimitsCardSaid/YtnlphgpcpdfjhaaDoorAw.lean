/- gameplayerlaw05.awake: the examples of the chapter. -/
import Derived.Test.YtnlphgpcpdfjhaaDoorPa
import Derived.Test.YtnlphgpcpdfjhaaDoorPr
namespace Go.Proofs.YtnlphgpcpdfjhaaDoor
open Go Go.RowKit
set_option linter.unusedSimpArgs false

/-- one element of a slice -/
theorem SlV.at {α : Type} {R : Rdr α} {sz : Nat} {w : World} {P : Nat → Prop} {A : Option Addr} {l : List α} (h : SlV R sz w P A l) (i : Nat) (a : α) (hi : l[i]? = some a) :
    ∃ b o x, A = some ⟨b, o, none⟩ ∧ b < w.heap.size ∧ R w P x a ∧ ∀ (j : Nat) (u : Value), x[j]? = some u → w.cell? ⟨b, o + i * sz + j, none⟩ = some u := by
  obtain ⟨xs, h1, h2, h3⟩ := h
  have hl : i < l.length := (List.getElem?_eq_some_iff.1 hi).1
  obtain ⟨b, o, hA, _, hb, hc⟩ := h2 (by omega)
  have hx : xs[i]? = some (xs[i]'(by omega)) := List.getElem?_eq_getElem (by omega)
  exact ⟨b, o, _, hA, hb, h3 i _ a hx hi, hc i _ hx⟩
theorem SlV.below {α : Type} {R : Rdr α} (hR : Keeps R) {sz : Nat} {w w' : World} {P : Nat → Prop} {A : Option Addr} {l : List α} (h : SlV R sz w P A l) (hb : Below w.heap.size w w') : SlV R sz w' P A l :=
  h.keep hR (fun b hp hlt => ⟨hp, hb.block b hlt⟩) hb.size
theorem RuV.inv {w : World} {P : Nat → Prop} {x : List Value} {r : Ru} (h : RuV w P x r) :
    ∃ nm A cap a A2 cap2, x = [.string (bs nm), .slice A a.length cap, .slice A2 r.body.length cap2] ∧ r.head = .mk nm a ∧ TmV w P [.string (bs nm), .slice A a.length cap] r.head ∧ SlV LiV 3 w P A2 r.body := by
  obtain ⟨y, A2, cap2, rfl, h, h2⟩ := h
  obtain ⟨nm, A, cap, a, rfl, he⟩ := h.form
  exact ⟨nm, A, cap, a, A2, cap2, rfl, he, h, h2⟩
theorem LiV.inv {w : World} {P : Nat → Prop} {x : List Value} {l : Li} (h : LiV w P x l) :
    ∃ nm A cap a, x = [.bool l.neg, .string (bs nm), .slice A a.length cap] ∧ l.atom = .mk nm a ∧ TmV w P [.string (bs nm), .slice A a.length cap] l.atom := by
  obtain ⟨y, rfl, h⟩ := h
  obtain ⟨nm, A, cap, a, rfl, he⟩ := h.form
  exact ⟨nm, A, cap, a, rfl, he, h⟩

def tX : Tm := .mk [88] []
def exRules : List Ru := [⟨.mk [112] [tX], [⟨false, .mk [113] [tX]⟩, ⟨true, .mk [114] [tX]⟩]⟩, ⟨.mk [113] [.mk [97] []], []⟩]
def exTerms : List Tm := [.mk [97] [], .mk [102] [tX], .mk [51] []]
def exA : Array UInt8 := #[112, 40, 88, 41, 32, 105, 102, 32, 113, 40, 88, 41, 32, 97, 110, 100, 32, 110, 111, 116, 32, 114, 40, 88, 41, 46, 32, 113, 40, 97, 41, 46]
theorem ex_parse : parseF exA.toList = .ok exRules := by kernel_rfl
theorem ex_term : termRF [102, 40, 97, 44, 98, 44, 99, 44, 100, 44, 101, 41] = .err 10 5 := by kernel_rfl
theorem ex_rule : ruleRF [112, 32, 105, 102, 32, 113] = .err 6 1 := by kernel_rfl
theorem ex_terms : termsRF [97, 44, 32, 102, 40, 88, 41, 44, 32, 51] = .ok exTerms := by kernel_rfl

def AwP (w : World) (e : Ending) (w' : World) : Prop := Below w.heap.size w w' ∧ ∃ A cp, e = .returned (.tuple #[.slice A 2 cp, .int .i64 0, .int .i64 0]) ∧ SlV RuV 3 w' (fun b => w.heap.size ≤ b) A exRules
theorem aw_parse (w : World) (hw : Wd w) : Calls Tryd.prog 12 #[.string ⟨#[112, 40, 88, 41, 32, 105, 102, 32, 113, 40, 88, 41, 32, 97, 110, 100, 32, 110, 111, 116, 32, 114, 40, 88, 41, 46, 32, 113, 40, 97, 41, 46]⟩] w (AwP w) := by
  have h := parse_any w ⟨exA⟩ (by decide) hw
  rw [show parseF (⟨exA⟩ : ByteArray).data.toList = _ from ex_parse] at h
  refine h.mono ?_
  rintro e w' ⟨hb, v, rfl, A, cp, rfl, hs⟩
  exact ⟨hb, A, cp, rfl, hs⟩
theorem aw_term (w : World) (hw : Wd w) : Calls Tryd.prog 18 #[.string ⟨#[102, 40, 97, 44, 98, 44, 99, 44, 100, 44, 101, 41]⟩] w fun e w' => e = .returned (.tuple #[.agg #[.string ⟨#[]⟩, .slice none 0 0], .int .i64 10, .int .i64 5]) ∧ Below w.heap.size w w' := by
  have h := pterm_any w ⟨#[102, 40, 97, 44, 98, 44, 99, 44, 100, 44, 101, 41]⟩ (by decide) hw
  rw [show termRF (⟨#[102, 40, 97, 44, 98, 44, 99, 44, 100, 44, 101, 41]⟩ : ByteArray).data.toList = _ from ex_term] at h
  refine h.mono ?_
  rintro e w' ⟨hb, rfl⟩
  exact ⟨rfl, hb⟩
theorem aw_rule (w : World) (hw : Wd w) : Calls Tryd.prog 15 #[.string ⟨#[112, 32, 105, 102, 32, 113]⟩] w fun e w' => e = .returned (.tuple #[.agg #[.string ⟨#[]⟩, .slice none 0 0, .slice none 0 0], .int .i64 6, .int .i64 1]) ∧ Below w.heap.size w w' := by
  have h := prule_any w ⟨#[112, 32, 105, 102, 32, 113]⟩ (by decide) hw
  rw [show ruleRF (⟨#[112, 32, 105, 102, 32, 113]⟩ : ByteArray).data.toList = _ from ex_rule] at h
  refine h.mono ?_
  rintro e w' ⟨hb, rfl⟩
  exact ⟨rfl, hb⟩
def AwT (w : World) (e : Ending) (w' : World) : Prop := Below w.heap.size w w' ∧ ∃ A cp, e = .returned (.tuple #[.slice A 3 cp, .int .i64 0, .int .i64 0]) ∧ SlV TmV 2 w' (fun b => w.heap.size ≤ b) A exTerms
theorem aw_terms (w : World) (hw : Wd w) : Calls Tryd.prog 20 #[.string ⟨#[97, 44, 32, 102, 40, 88, 41, 44, 32, 51]⟩] w (AwT w) := by
  have h := pterms_any w ⟨#[97, 44, 32, 102, 40, 88, 41, 44, 32, 51]⟩ (by decide) hw
  rw [show termsRF (⟨#[97, 44, 32, 102, 40, 88, 41, 44, 32, 51]⟩ : ByteArray).data.toList = _ from ex_terms] at h
  refine h.mono ?_
  rintro e w' ⟨hb, v, rfl, A, cp, rfl, hs⟩
  exact ⟨hb, A, cp, rfl, hs⟩

set_option maxHeartbeats 4000000 in
set_option maxRecDepth 100000 in
theorem awake_any (w : World) (hw : Wd w) : Calls Tryd.prog 11 #[] w (YesP w) := by
  have HW := Lib.hid hw
  clear hw
  go_enter Tryd.func11, Tryd.ntmps11
  go_wp2_with fail
  refine (aw_parse w HW.out).mono ?_
  rintro e w1 ⟨hb1, A, cp, rfl, hs1⟩
  have HB1 := Lib.hid hb1
  have HW1 := Lib.hid (HW.out.below hb1 HW.out.1)
  have HS1 := Lib.hid hs1
  clear hb1 hs1 HW
  go_wp2_with fail
  refine (aw_term w1 HW1.out).mono ?_
  rintro e w2 ⟨rfl, hb2⟩
  have hba : Below w2.heap.size w2 (w2.alloc (.cells #[.string ⟨#[]⟩, .slice none 0 0] 31)) := (Below.refl _ _).alloc (Nat.le_refl _) _
  have HB2 := Lib.hid (hb2.trans (hba.mono hb2.size))
  clear hb2 hba
  go_wp2_with fail
  generalize w2.alloc (.cells #[.string ⟨#[]⟩, .slice none 0 0] 31) = w3 at *
  have HW3 := Lib.hid (HW1.out.below HB2.out HW1.out.1)
  have HS3 := Lib.hid (HS1.out.below keeps_ru HB2.out)
  have HB3 := Lib.hid (HB1.out.trans (HB2.out.mono HB1.out.size))
  clear HW1 HS1 HB1 HB2
  generalize w2.heap.size = q2 at *
  refine (aw_rule w3 HW3.out).mono ?_
  rintro e w4 ⟨rfl, hb4⟩
  have hba : Below w4.heap.size w4 (w4.alloc (.cells #[.string ⟨#[]⟩, .slice none 0 0, .slice none 0 0] 34)) := (Below.refl _ _).alloc (Nat.le_refl _) _
  have HB4 := Lib.hid (hb4.trans (hba.mono hb4.size))
  clear hb4 hba
  go_wp2_with fail
  generalize w4.alloc (.cells #[.string ⟨#[]⟩, .slice none 0 0, .slice none 0 0] 34) = w5 at *
  have HW5 := Lib.hid (HW3.out.below HB4.out HW3.out.1)
  have HS5 := Lib.hid (HS3.out.below keeps_ru HB4.out)
  have HB5 := Lib.hid (HB3.out.trans (HB4.out.mono HB3.out.size))
  clear HW3 HS3 HB3 HB4
  generalize w4.heap.size = q4 at *
  refine (aw_terms w5 HW5.out).mono ?_
  rintro e w6 ⟨hb6, A6, cp6, rfl, hs6⟩
  have HB6 := Lib.hid (HB5.out.trans (hb6.mono HB5.out.size))
  have HS6 := Lib.hid (HS5.out.below keeps_ru hb6)
  obtain ⟨b, o, x0, rfl, hbl, hr0, hc0⟩ := HS6.out.at 0 _ rfl
  obtain ⟨nm0, A0, cap0, a0, A2, cap2, rfl, _, _, hbody⟩ := hr0.inv
  obtain ⟨b2, o2, y0, rfl, hbl2, hl0, hd0⟩ := hbody.at 0 _ rfl
  obtain ⟨b2', o2', y1, he, _, hl1, hd1⟩ := hbody.at 1 _ rfl
  obtain ⟨nq, Aq, capq, aq, rfl, _, _⟩ := hl0.inv
  obtain ⟨nr, Ar, capr, ar, rfl, har, htr⟩ := hl1.inv
  obtain ⟨b', o', x1, he', _, hr1, hc1⟩ := HS6.out.at 1 _ rfl
  obtain ⟨nm1, A1, cap1, a1, A3, cap3, rfl, _, _, _⟩ := hr1.inv
  obtain ⟨b6, o6, z1, rfl, hbl6, ht1, hz1⟩ := hs6.at 1 _ rfl
  obtain ⟨nmf, Af, capf, af, rfl, haf⟩ := ht1.form
  injection he with he; injection he with e1 e2; subst e1; subst e2
  injection he' with he'; injection he' with e1 e2; subst e1; subst e2
  injection haf with hf1 hf2
  subst hf1
  have c0 : w6.cell? ⟨b, o + 2, none⟩ = some (.slice (some ⟨b2, o2, none⟩) 2 cap2) := by have := hc0 2 _ rfl; simpa using this
  have c1 : w6.cell? ⟨b, o + 3 + 2, none⟩ = some (.slice A3 0 cap3) := by have := hc1 2 _ rfl; simpa using this
  have d0 : w6.cell? ⟨b2, o2, none⟩ = some (.bool false) := by have := hd0 0 _ rfl; simpa using this
  have d10 : w6.cell? ⟨b2, o2 + 3, none⟩ = some (.bool true) := by have := hd1 0 _ rfl; simpa using this
  have d11 : w6.cell? ⟨b2, o2 + 3 + 1, none⟩ = some (.string (bs nr)) := by have := hd1 1 _ rfl; simpa using this
  have d12 : w6.cell? ⟨b2, o2 + 3 + 1 + 1, none⟩ = some (.slice Ar ar.length capr) := by have := hd1 2 _ rfl; simpa using this
  have z0 : w6.cell? ⟨b6, o6 + 2, none⟩ = some (.string (bs [102])) := by have := hz1 0 _ rfl; simpa using this
  have HTR := Lib.hid htr
  clear hf2 hc0 hc1 hd0 hd1 hz1 hr0 hr1 hl0 hl1 hbody ht1 hs6 htr hb6 HS5 HB5 HS6
  go_wp2_with fail
  have hba : Below w6.heap.size w6 (w6.alloc (.cells #[.string ⟨#[88]⟩, .slice none 0 0] 31)) := (Below.refl _ _).alloc (Nat.le_refl _) _
  have HY : TmV (w6.alloc (.cells #[.string ⟨#[88]⟩, .slice none 0 0] 31)) (fun _ => True) [.string ⟨#[114]⟩, .slice (some ⟨w6.heap.size, 0, none⟩) 1 1] (.mk [114] [tX]) := by
    have hblk := heap_alloc_new w6 (.cells #[.string ⟨#[88]⟩, .slice none 0 0] 31)
    obtain ⟨y0, y1, _, _⟩ := cells_two hblk
    refine .mk [114] _ 1 [tX] [[.string (bs [88]), .slice none 0 0]] rfl (fun _ => ⟨_, 0, rfl, trivial, heap_lt hblk, fun i x hx j u hu => ?_⟩) (fun i x t hx ht => ?_)
    · cases i with
      | succ i => simp at hx
      | zero =>
        simp at hx
        subst hx
        match j, hu with
        | 0, hu => simp at hu; subst hu; exact y0
        | 1, hu => simp at hu; subst hu; exact y1
    · cases i with
      | succ i => simp at hx
      | zero =>
        simp at hx ht
        subst hx; subst ht
        exact .mk [88] none 0 [] [] rfl (fun h => absurd h (by simp)) (by simp)
  have HTS : TmS (.mk [114] [tX]) := .mk _ _ (by simp) (by intro t ht; simp at ht; subst ht; exact .mk _ _ (by simp) (by simp))
  have HP := Lib.hid (plTerm HTS (w6.alloc (.cells #[.string ⟨#[88]⟩, .slice none 0 0] 31)) _ _ [.string (bs nr), .slice Ar ar.length capr] _ (HTR.out.keep (P' := fun _ => True) (fun b _ hlt => ⟨trivial, hba.block b hlt⟩) hba.size) HY)
  have HBA := Lib.hid (HB6.out.trans (hba.mono HB6.out.size))
  have hs8 := hba.size
  have e1 := (hba.cell (p := ⟨b, o + 3 + 2, none⟩) hbl).trans c1
  have e2 := (hba.cell (p := ⟨b6, o6 + 2, none⟩) hbl6).trans z0
  clear HTS HY hba c0 c1 d0 d10 d11 d12 z0
  have hbl' : b < (w6.alloc (.cells #[.string ⟨#[88]⟩, .slice none 0 0] 31)).heap.size := by omega
  have hbl6' : b6 < (w6.alloc (.cells #[.string ⟨#[88]⟩, .slice none 0 0] 31)).heap.size := by omega
  generalize w6.alloc (.cells #[.string ⟨#[88]⟩, .slice none 0 0] 31) = w8 at *
  refine HP.out.mono ?_
  rintro e w9 ⟨rfl, hb9⟩
  have HB9 := Lib.hid (HBA.out.trans (hb9.mono HBA.out.size))
  have c1 := (hb9.cell (p := ⟨b, o + 3 + 2, none⟩) hbl').trans e1
  have z0 := (hb9.cell (p := ⟨b6, o6 + 2, none⟩) hbl6').trans e2
  have hbs : bs [102] = ⟨#[102]⟩ := rfl
  rw [hbs] at z0
  clear hb9 e1 e2 hbs
  go_wp2_with fail
  go_ret
  exact ⟨rfl, HB9.out⟩
end Go.Proofs.YtnlphgpcpdfjhaaDoor
