/- gameplayerplain.Term, Terms, Rule: what they answer, for any values. -/
import Derived.Test.YthkbnjojkeeffaaDoorPr
import Derived.Test.YthkbnjojkeeffaaDoorGd
namespace Go.Proofs.YthkbnjojkeeffaaDoor
open Go Go.RowKit
set_option linter.unusedSimpArgs false

mutual
def eqT : Tm → Tm → Bool
  | .mk n l, .mk m k => (n == m) && eqL l k
def eqL : List Tm → List Tm → Bool
  | [], [] => true
  | a :: l, b :: k => eqT a b && eqL l k
  | [], _ :: _ => false
  | _ :: _, [] => false
end
mutual
theorem eqT_of : ∀ (a b : Tm), eqT a b = true → a = b
  | .mk n l, .mk m k, h => by
    rw [eqT, Bool.and_eq_true, beq_iff_eq] at h
    rw [h.1, eqL_of l k h.2]
theorem eqL_of : ∀ (l k : List Tm), eqL l k = true → l = k
  | [], [], _ => rfl
  | a :: l, b :: k, h => by
    rw [eqL, Bool.and_eq_true] at h
    rw [eqT_of a b h.1, eqL_of l k h.2]
  | [], _ :: _, h => by rw [eqL] at h; cases h
  | _ :: _, [], h => by rw [eqL] at h; cases h
end
mutual
theorem eqT_refl : ∀ (a : Tm), eqT a a = true
  | .mk n l => by rw [eqT, eqL_refl l]; simp
theorem eqL_refl : ∀ (l : List Tm), eqL l l = true
  | [] => rfl
  | a :: l => by rw [eqL, eqT_refl a, eqL_refl l]; rfl
end
theorem eqL_len : ∀ (l k : List Tm), l.length ≠ k.length → eqL l k = false
  | [], [], h => absurd rfl h
  | a :: l, b :: k, h => by rw [eqL, eqL_len l k (by simpa using h), Bool.and_false]
  | [], _ :: _, _ => by rw [eqL]
  | _ :: _, [], _ => by rw [eqL]
theorem eqL_take : ∀ (l k : List Tm) (i : Nat) (a b : Tm), l[i]? = some a → k[i]? = some b → eqL (l.take (i + 1)) (k.take (i + 1)) = (eqL (l.take i) (k.take i) && eqT a b)
  | [], _, i, _, _, h, _ => by simp at h
  | _ :: _, [], i, _, _, _, h => by simp at h
  | x :: l, y :: k, 0, a, b, h, h2 => by
    simp at h h2
    subst h; subst h2
    simp [eqL]
  | x :: l, y :: k, i + 1, a, b, h, h2 => by
    rw [List.take_succ_cons, List.take_succ_cons, List.take_succ_cons, List.take_succ_cons, eqL, eqL, eqL_take l k i a b (by simpa using h) (by simpa using h2), Bool.and_assoc]
theorem eqL_no : ∀ (l k : List Tm) (i : Nat) (a b : Tm), l[i]? = some a → k[i]? = some b → eqT a b = false → eqL l k = false
  | [], _, i, _, _, h, _, _ => by simp at h
  | _ :: _, [], i, _, _, _, h, _ => by simp at h
  | x :: l, y :: k, 0, a, b, h, h2, hf => by
    simp at h h2
    subst h; subst h2
    rw [eqL, hf, Bool.false_and]
  | x :: l, y :: k, i + 1, a, b, h, h2, hf => by
    rw [eqL, eqL_no l k i a b (by simpa using h) (by simpa using h2) hf, Bool.and_false]
theorem bs_off {l : List UInt8} {s : ByteArray} (h : l ≠ s.data.toList) : ((bs l).toList == s.toList) = false := by
  rw [ByteArray.toList_eq, ByteArray.toList_eq]
  exact beq_eq_false_iff_ne.2 h

set_option maxHeartbeats 4000000 in
set_option maxRecDepth 100000 in
theorem plTermsB (w : World) (P P' : Nat → Prop) (A B : Option Addr) (l m : List Tm) (c1 c2 : Nat) (xs ys : List (List Value)) (hx : Arr w P A 2 xs) (hy : Arr w P' B 2 ys) (hxl : xs.length = l.length) (hyl : ys.length = m.length) (hn : l.length < 4611686018427387904)
    (hx2 : ∀ x ∈ xs, ∃ a b, x = [a, b]) (hy2 : ∀ y ∈ ys, ∃ a b, y = [a, b])
    (hc : ∀ (i : Nat) (x y : List Value) (a b : Tm), xs[i]? = some x → ys[i]? = some y → l[i]? = some a → m[i]? = some b → ∀ w', Below w.heap.size w w' → Calls Tryd.prog 48 #[.agg x.toArray, .agg y.toArray] w' (OutB w' (.bool (eqT a b)))) :
    Calls Tryd.prog 69 #[.slice A l.length c1, .slice B m.length c2] w (OutB w (.bool (eqL l m))) := by
  have HC := Lib.hid hc
  have HX2 := Lib.hid hx2
  have HY2 := Lib.hid hy2
  have HX := Lib.hid hx
  have HY := Lib.hid hy
  clear hc hx2 hy2 hx hy
  by_cases hlm : l.length = m.length
  rotate_left
  focus
    have HE := Lib.hid (eqL_len l m hlm)
    have e1 : ((l.length : Int) == (m.length : Int)) = false := beq_eq_false_iff_ne.2 (by omega)
    have e2 : ((l.length : Int) != (m.length : Int)) = true := bne_iff_ne.2 (by omega)
    have e3 : decide (l.length = m.length) = false := decide_eq_false hlm
    have e4 : decide ((l.length : Int) = (m.length : Int)) = false := decide_eq_false (by omega)
    have e5 : (l.length == m.length) = false := beq_eq_false_iff_ne.2 hlm
    have e6 : (l.length != m.length) = true := bne_iff_ne.2 hlm
    go_enter Tryd.func69, Tryd.ntmps69
    go_wp2_with fail
    go_ret
    exact ⟨(by rw [HE.out]; first | done | rfl), Below.refl _ _⟩
  rw [← hlm] at hyl ⊢
  have HLM := Lib.hid hlm
  clear hlm
  go_enter Tryd.func69, Tryd.ntmps69
  go_wp2_with fail
  go_loopw [13] (fun i wr => ∃ k : Nat, k ≤ l.length ∧ i = .int .i64 k ∧ Hid (eqL (l.take k) (m.take k) = true ∧ Below w.heap.size w wr)) (fun i _ => l.length - (intOf i).toNat)
  case atStart => exact ⟨0, by omega, rfl, by rw [List.take_zero, List.take_zero, eqL], Below.refl _ _⟩
  case round =>
    obtain ⟨k, hk, rfl, HI⟩ := hrel
    have HB := Lib.hid HI.out.2
    rcases Nat.lt_or_ge k l.length with hlt | hge
    · have hki : (k : Int) < (l.length : Int) := by omega
      obtain ⟨x, hxk⟩ : ∃ x, xs[k]? = some x := ⟨_, List.getElem?_eq_getElem (by omega)⟩
      obtain ⟨y, hyk⟩ : ∃ y, ys[k]? = some y := ⟨_, List.getElem?_eq_getElem (by omega)⟩
      obtain ⟨a, hak⟩ : ∃ a, l[k]? = some a := ⟨_, List.getElem?_eq_getElem (by omega)⟩
      obtain ⟨b, hbk⟩ : ∃ b, m[k]? = some b := ⟨_, List.getElem?_eq_getElem (by rw [← HLM.out]; omega)⟩
      obtain ⟨xa, xb, rfl⟩ := HX2.out x (List.mem_of_getElem? hxk)
      obtain ⟨ya, yb, rfl⟩ := HY2.out y (List.mem_of_getElem? hyk)
      obtain ⟨bA, oA, rfl, _, hlA, hcA⟩ := HX.out (by omega)
      obtain ⟨bB, oB, rfl, _, hlB, hcB⟩ := HY.out (by omega)
      have x0 := hcA k _ hxk 0 xa rfl
      have x1 := hcA k _ hxk 1 xb rfl
      have y0 := hcB k _ hyk 0 ya rfl
      have y1 := hcB k _ hyk 1 yb rfl
      have HX0 := Lib.hid (show wr.cell? ⟨bA, oA + k * 2, none⟩ = some xa from (HB.out.cell hlA).trans x0)
      have HX1 := Lib.hid (show wr.cell? ⟨bA, oA + k * 2 + 1, none⟩ = some xb from (HB.out.cell hlA).trans x1)
      have HY0 := Lib.hid (show wr.cell? ⟨bB, oB + k * 2, none⟩ = some ya from (HB.out.cell hlB).trans y0)
      have HY1 := Lib.hid (show wr.cell? ⟨bB, oB + k * 2 + 1, none⟩ = some yb from (HB.out.cell hlB).trans y1)
      have HCK := Lib.hid (HC.out k _ _ a b hxk hyk hak hbk)
      have HT := Lib.hid (show eqT a b = true → eqL (l.take (k + 1)) (m.take (k + 1)) = true from fun h => by rw [eqL_take l m k a b hak hbk, HI.out.1, h]; rfl)
      have HN := Lib.hid (eqL_no l m k a b hak hbk)
      have hk0 : (0 : Int) ≤ (k : Int) := by omega
      clear x0 x1 y0 y1 hcA hcB hxk hyk hak hbk HI
      go_wp2_with fail
      refine region_tail 8 (by kernel_rfl) (by kernel_rfl) ?_
      have HBD := Lib.hid HB.out.drew
      have HCD := Lib.hid (HCK.out wr.drew HB.out.drew)
      have x0 : wr.drew.cell? ⟨bA, oA + k * 2, none⟩ = some xa := HX0.out
      have x1 : wr.drew.cell? ⟨bA, oA + k * 2 + 1, none⟩ = some xb := HX1.out
      have y0 : wr.drew.cell? ⟨bB, oB + k * 2, none⟩ = some ya := HY0.out
      have y1 : wr.drew.cell? ⟨bB, oB + k * 2 + 1, none⟩ = some yb := HY1.out
      clear HX0 HX1 HY0 HY1 HCK
      generalize wr.drew = wd at *
      cases hq : eqT a b
      all_goals
        rw [hq] at HCD
        have HQ := Lib.hid hq
        clear hq
        simp only [List.take_succ_cons, List.take_zero, List.drop_succ_cons, List.drop_zero]
        repeat still_step
        refine wpStill_nil ?_
        go_wp2_with fail
        refine HCD.out.mono ?_
        rintro e w2 ⟨rfl, hb2⟩
        have HB2 := Lib.hid (HBD.out.trans (hb2.mono HBD.out.size))
        clear hb2 x0 x1 y0 y1
        go_wp2_with fail
      · go_ret
        exact ⟨(by rw [HN.out HQ.out]; first | done | rfl), HB2.out⟩
      · go_roundw
        case measure => simp [intOf]; omega
        case rel => exact ⟨k + 1, by omega, by first | rfl | (congr 1; omega), HT.out HQ.out, HB2.out⟩
    · have hkn : k = l.length := by omega
      subst hkn
      have HE : Hid (eqL l m = true) := by
        have h := HI.out.1
        rw [List.take_length, HLM.out, List.take_length] at h
        exact h
      clear HI
      go_wp2_with fail
      go_ret
      exact ⟨(by rw [HE.out]; first | done | rfl), HB.out⟩

set_option maxHeartbeats 4000000 in
set_option maxRecDepth 100000 in
theorem plTermB {t : Tm} (hs : TmS t) : ∀ (w : World) (P P' : Nat → Prop) (x y : List Value) (u : Tm), TmV w P x t → TmV w P' y u → Calls Tryd.prog 48 #[.agg x.toArray, .agg y.toArray] w (OutB w (.bool (eqT t u))) := by
  induction hs with
  | mk nm l hl h ih =>
    intro w P P' x y u hx hy
    obtain ⟨nm2, m⟩ := u
    obtain ⟨A, c1, xs, rfl, hxl, hA, hxt⟩ := hx.inv
    obtain ⟨B, c2, ys, rfl, hyl, hB, hyt⟩ := hy.inv
    clear hx hy
    have hb : Below w.heap.size w ((w.alloc (.cells #[.string (bs nm), .slice A l.length c1] 24)).alloc (.cells #[.string (bs nm2), .slice B m.length c2] 24)) := ((Below.refl _ _).alloc (Nat.le_refl _) _).alloc (by simp) _
    have hkp : ∀ (Q : Nat → Prop) (b : Nat), Q b → b < w.heap.size → Q b ∧ ((w.alloc (.cells #[.string (bs nm), .slice A l.length c1] 24)).alloc (.cells #[.string (bs nm2), .slice B m.length c2] 24)).heap[b]? = w.heap[b]? := fun Q b hQ hlt => ⟨hQ, hb.block b hlt⟩
    have hC : Calls Tryd.prog 69 #[.slice A l.length c1, .slice B m.length c2] ((w.alloc (.cells #[.string (bs nm), .slice A l.length c1] 24)).alloc (.cells #[.string (bs nm2), .slice B m.length c2] 24)) (OutB ((w.alloc (.cells #[.string (bs nm), .slice A l.length c1] 24)).alloc (.cells #[.string (bs nm2), .slice B m.length c2] 24)) (.bool (eqL l m))) := by
      refine plTermsB _ P P' A B l m c1 c2 xs ys (hA.keep (hkp P) hb.size) (hB.keep (hkp P') hb.size) hxl hyl hl ?_ ?_ ?_
      · intro x hx
        obtain ⟨i, hi⟩ := List.mem_iff_getElem?.1 hx
        have hil : i < l.length := by rw [← hxl]; exact (List.getElem?_eq_some_iff.1 hi).1
        obtain ⟨nm', A', cap', l', rfl, _⟩ := (hxt i x _ hi (List.getElem?_eq_getElem hil)).form
        exact ⟨_, _, rfl⟩
      · intro x hx
        obtain ⟨i, hi⟩ := List.mem_iff_getElem?.1 hx
        have hil : i < m.length := by rw [← hyl]; exact (List.getElem?_eq_some_iff.1 hi).1
        obtain ⟨nm', A', cap', l', rfl, _⟩ := (hyt i x _ hi (List.getElem?_eq_getElem hil)).form
        exact ⟨_, _, rfl⟩
      · intro i x y a b hx hy ha hb3 w' hb'
        have hb2 := hb.trans (hb'.mono hb.size)
        exact ih _ (List.mem_of_getElem? ha) w' P P' x y b ((hxt i x _ hx ha).keep (fun b hQ hlt => ⟨hQ, hb2.block b hlt⟩) hb2.size) ((hyt i y _ hy hb3).keep (fun b hQ hlt => ⟨hQ, hb2.block b hlt⟩) hb2.size)
    have HC := Lib.hid hC
    have HB := Lib.hid hb
    obtain ⟨e0, e1, _, _⟩ := cells_two ((Below.heap_alloc (w.alloc (.cells #[.string (bs nm), .slice A l.length c1] 24)) (.cells #[.string (bs nm2), .slice B m.length c2] 24) w.heap.size (by simp)).trans (heap_alloc_new w _))
    have hs1 : (w.alloc (.cells #[.string (bs nm), .slice A l.length c1] 24)).heap.size = w.heap.size + 1 := by simp
    obtain ⟨z0, z1, _, _⟩ := cells_two (heap_alloc_new (w.alloc (.cells #[.string (bs nm), .slice A l.length c1] 24)) (.cells #[.string (bs nm2), .slice B m.length c2] 24))
    rw [hs1] at z0 z1
    clear hC hb hkp hA hB hxt hyt ih h hs1
    by_cases hnm : nm = nm2
    · subst hnm
      have heq : ((bs nm).toList == (bs nm).toList) = true := by simp
      have HV := Lib.hid (show eqT (.mk nm l) (.mk nm m) = eqL l m by rw [eqT]; simp)
      generalize eqL l m = q at *
      go_enter Tryd.func48, Tryd.ntmps48
      go_wp2_with fail
      generalize (w.alloc (.cells #[.string (bs nm), .slice A l.length c1] 24)).alloc (.cells #[.string (bs nm), .slice B m.length c2] 24) = w0 at *
      refine HC.out.mono ?_
      rintro e w2 ⟨rfl, hb2⟩
      have HB2 := Lib.hid (HB.out.trans (hb2.mono HB.out.size))
      clear hb2 e0 e1 z0 z1
      go_wp2_with fail
      go_ret
      exact ⟨(by rw [HV.out]; first | done | rfl), HB2.out⟩
    · have heq : ((bs nm).toList == (bs nm2).toList) = false := bs_off hnm
      have HV := Lib.hid (show eqT (.mk nm l) (.mk nm2 m) = false by rw [eqT, beq_eq_false_iff_ne.2 hnm]; rfl)
      clear hnm HC
      go_enter Tryd.func48, Tryd.ntmps48
      go_wp2_with fail
      go_ret
      exact ⟨(by rw [HV.out]; first | done | rfl), HB.out⟩
/-- what Rule answers -/
def eqB : List Li → List Li → Bool
  | [], [] => true
  | a :: l, b :: k => (a.neg == b.neg && eqT a.atom b.atom) && eqB l k
  | [], _ :: _ => false
  | _ :: _, [] => false
def eqR (a b : Ru) : Bool := eqT a.head b.head && eqB a.body b.body
theorem eqB_of : ∀ (l k : List Li), eqB l k = true → l = k
  | [], [], _ => rfl
  | a :: l, b :: k, h => by
    rw [eqB, Bool.and_eq_true, Bool.and_eq_true, beq_iff_eq] at h
    obtain ⟨an, at1⟩ := a
    obtain ⟨bn, at2⟩ := b
    simp only at h
    rw [eqB_of l k h.2, h.1.1, eqT_of at1 at2 h.1.2]
  | [], _ :: _, h => by rw [eqB] at h; cases h
  | _ :: _, [], h => by rw [eqB] at h; cases h
theorem eqR_of {a b : Ru} (h : eqR a b = true) : a = b := by
  unfold eqR at h
  rw [Bool.and_eq_true] at h
  obtain ⟨ah, ab⟩ := a
  obtain ⟨bh, bb⟩ := b
  simp only at h
  rw [eqT_of _ _ h.1, eqB_of _ _ h.2]
theorem eqB_refl : ∀ (l : List Li), eqB l l = true
  | [] => rfl
  | a :: l => by rw [eqB, eqT_refl, eqB_refl l]; simp
theorem eqR_refl (a : Ru) : eqR a a = true := by unfold eqR; rw [eqT_refl, eqB_refl]; rfl
theorem eqB_len : ∀ (l k : List Li), l.length ≠ k.length → eqB l k = false
  | [], [], h => absurd rfl h
  | a :: l, b :: k, h => by rw [eqB, eqB_len l k (by simpa using h), Bool.and_false]
  | [], _ :: _, _ => by rw [eqB]
  | _ :: _, [], _ => by rw [eqB]
theorem eqB_take : ∀ (l k : List Li) (i : Nat) (a b : Li), l[i]? = some a → k[i]? = some b → eqB (l.take (i + 1)) (k.take (i + 1)) = (eqB (l.take i) (k.take i) && (a.neg == b.neg && eqT a.atom b.atom))
  | [], _, i, _, _, h, _ => by simp at h
  | _ :: _, [], i, _, _, _, h => by simp at h
  | x :: l, y :: k, 0, a, b, h, h2 => by
    simp at h h2
    subst h; subst h2
    simp [eqB]
  | x :: l, y :: k, i + 1, a, b, h, h2 => by
    rw [List.take_succ_cons, List.take_succ_cons, List.take_succ_cons, List.take_succ_cons, eqB, eqB, eqB_take l k i a b (by simpa using h) (by simpa using h2)]
    simp only [Bool.and_assoc]
theorem eqB_no : ∀ (l k : List Li) (i : Nat) (a b : Li), l[i]? = some a → k[i]? = some b → (a.neg == b.neg && eqT a.atom b.atom) = false → eqB l k = false
  | [], _, i, _, _, h, _, _ => by simp at h
  | _ :: _, [], i, _, _, _, h, _ => by simp at h
  | x :: l, y :: k, 0, a, b, h, h2, hf => by
    simp at h h2
    subst h; subst h2
    rw [eqB, hf, Bool.false_and]
  | x :: l, y :: k, i + 1, a, b, h, h2, hf => by
    rw [eqB, eqB_no l k i a b (by simpa using h) (by simpa using h2) hf, Bool.and_false]

set_option maxHeartbeats 8000000 in
set_option maxRecDepth 100000 in
theorem plRuleB {r : Ru} (hs : RuS r) (u : Ru) (w : World) (P P' : Nat → Prop) (x y : List Value) (hx : RuV w P x r) (hy : RuV w P' y u) :
    Calls Tryd.prog 29 #[.agg x.toArray, .agg y.toArray] w (OutB w (.bool (eqR r u))) := by
  obtain ⟨hxs, A, c1, rfl, hxh, xs, hxl, hxA, hxt⟩ := hx
  obtain ⟨hys, B, c2, rfl, hyh, ys, hyl, hyA, hyt⟩ := hy
  obtain ⟨nm, A0, c3, a0, rfl, hre⟩ := hxh.form
  obtain ⟨nm2, B0, c4, b0, rfl, hre2⟩ := hyh.form
  have hb : Below w.heap.size w ((w.alloc (.cells #[.string (bs nm), .slice A0 a0.length c3, .slice A r.body.length c1] 27)).alloc (.cells #[.string (bs nm2), .slice B0 b0.length c4, .slice B u.body.length c2] 27)) := ((Below.refl _ _).alloc (Nat.le_refl _) _).alloc (by simp) _
  obtain ⟨p0, p1, p2, _, _, _⟩ := cells_three ((Below.heap_alloc (w.alloc (.cells #[.string (bs nm), .slice A0 a0.length c3, .slice A r.body.length c1] 27)) (.cells #[.string (bs nm2), .slice B0 b0.length c4, .slice B u.body.length c2] 27) w.heap.size (by simp)).trans (heap_alloc_new w _))
  have hs1 : (w.alloc (.cells #[.string (bs nm), .slice A0 a0.length c3, .slice A r.body.length c1] 27)).heap.size = w.heap.size + 1 := by simp
  have hs2 : ((w.alloc (.cells #[.string (bs nm), .slice A0 a0.length c3, .slice A r.body.length c1] 27)).alloc (.cells #[.string (bs nm2), .slice B0 b0.length c4, .slice B u.body.length c2] 27)).heap.size = w.heap.size + 2 := by simp
  obtain ⟨q0, q1, q2, _, _, _⟩ := cells_three (heap_alloc_new (w.alloc (.cells #[.string (bs nm), .slice A0 a0.length c3, .slice A r.body.length c1] 27)) (.cells #[.string (bs nm2), .slice B0 b0.length c4, .slice B u.body.length c2] 27))
  rw [hs1] at q0 q1 q2
  have HB0 := Lib.hid hb
  have HS2 := Lib.hid hs2
  have hn := hs.len
  have HAT := Lib.hid hs.at_
  have hhd : Calls Tryd.prog 48 #[.agg #[.string (bs nm), .slice A0 a0.length c3], .agg #[.string (bs nm2), .slice B0 b0.length c4]] ((w.alloc (.cells #[.string (bs nm), .slice A0 a0.length c3, .slice A r.body.length c1] 27)).alloc (.cells #[.string (bs nm2), .slice B0 b0.length c4, .slice B u.body.length c2] 27)) _ :=
    plTermB hs.hd _ P P' _ _ u.head (hxh.keep (fun b hQ hlt => ⟨hQ, hb.block b hlt⟩) hb.size) (hyh.keep (fun b hQ hlt => ⟨hQ, hb.block b hlt⟩) hb.size)
  have HHD := Lib.hid hhd
  have HXA := Lib.hid hxA
  have HYA := Lib.hid hyA
  have HXT := Lib.hid hxt
  have HYT := Lib.hid hyt
  clear hb hs1 hs2 hhd hxA hyA hxt hyt hxh hyh hs
  cases hqh : eqT r.head u.head
  focus
    have HR := Lib.hid (show eqR r u = false by unfold eqR; rw [hqh]; rfl)
    rw [hqh] at HHD
    clear hqh
    go_enter Tryd.func29, Tryd.ntmps29
    go_wp2_with fail
    generalize (w.alloc (.cells #[.string (bs nm), .slice A0 a0.length c3, .slice A r.body.length c1] 27)).alloc (.cells #[.string (bs nm2), .slice B0 b0.length c4, .slice B u.body.length c2] 27) = w0 at *
    refine HHD.out.mono ?_
    rintro e w1 ⟨rfl, hb1⟩
    have HB1 := Lib.hid (HB0.out.trans (hb1.mono HB0.out.size))
    clear p0 p1 p2 q0 q1 q2 hb1 HHD
    go_wp2_with fail
    go_ret
    exact ⟨(by rw [HR.out]; first | done | rfl), HB1.out⟩
  rw [hqh] at HHD
  have HRB := Lib.hid (show eqR r u = eqB r.body u.body by unfold eqR; rw [hqh]; rfl)
  clear hqh
  by_cases hlm : r.body.length = u.body.length
  rotate_left
  focus
    have HR := Lib.hid (HRB.out.trans (eqB_len _ _ hlm))
    have e1 : ((r.body.length : Int) == (u.body.length : Int)) = false := beq_eq_false_iff_ne.2 (by omega)
    have e2 : ((r.body.length : Int) != (u.body.length : Int)) = true := bne_iff_ne.2 (by omega)
    have e3 : decide (r.body.length = u.body.length) = false := decide_eq_false hlm
    go_enter Tryd.func29, Tryd.ntmps29
    go_wp2_with fail
    generalize (w.alloc (.cells #[.string (bs nm), .slice A0 a0.length c3, .slice A r.body.length c1] 27)).alloc (.cells #[.string (bs nm2), .slice B0 b0.length c4, .slice B u.body.length c2] 27) = w0 at *
    refine HHD.out.mono ?_
    rintro e w1 ⟨rfl, hb1⟩
    have HB1 := Lib.hid (HB0.out.trans (hb1.mono HB0.out.size))
    have hsw := HS2.out
    have pp2 := (hb1.cell (p := ⟨w.heap.size, 2, none⟩) (by simp; omega)).trans p2
    have qq2 := (hb1.cell (p := ⟨w.heap.size + 1, 2, none⟩) (by simp; omega)).trans q2
    clear p0 p1 p2 q0 q1 q2 hb1 HHD hsw
    go_wp2_with fail
    go_ret
    exact ⟨(by rw [HR.out]; first | done | rfl), HB1.out⟩
  rw [← hlm] at hyl HHD HS2 HB0 p0 p1 p2 q0 q1 q2 ⊢
  have HLM := Lib.hid hlm
  clear hlm
  go_enter Tryd.func29, Tryd.ntmps29
  go_wp2_with fail
  generalize (w.alloc (.cells #[.string (bs nm), .slice A0 a0.length c3, .slice A r.body.length c1] 27)).alloc (.cells #[.string (bs nm2), .slice B0 b0.length c4, .slice B r.body.length c2] 27) = w0 at *
  refine HHD.out.mono ?_
  rintro e w1 ⟨rfl, hb1⟩
  have hsw := HS2.out
  have HP2 := Lib.hid p2
  have HQ2 := Lib.hid q2
  have pp2 := (hb1.cell (p := ⟨w.heap.size, 2, none⟩) (by simp; omega)).trans p2
  have qq2 := (hb1.cell (p := ⟨w.heap.size + 1, 2, none⟩) (by simp; omega)).trans q2
  have HB1 := Lib.hid hb1
  clear p0 p1 p2 q0 q1 q2 hb1 HHD
  go_wp2_with fail
  clear pp2 qq2
  go_loopw [24] (fun i wr => ∃ k : Nat, k ≤ r.body.length ∧ i = .int .i64 k ∧ Hid (eqB (r.body.take k) (u.body.take k) = true ∧ Below w0.heap.size w0 wr)) (fun i _ => r.body.length - (intOf i).toNat)
  case atStart => exact ⟨0, by omega, rfl, by rw [List.take_zero, List.take_zero, eqB], HB1.out⟩
  case round =>
    obtain ⟨k, hk, rfl, HI⟩ := hrel
    have HB := Lib.hid HI.out.2
    clear HB1 w1
    rcases Nat.lt_or_ge k r.body.length with hlt | hge
    · have hki : (k : Int) < (r.body.length : Int) := by omega
      have hk0 : (0 : Int) ≤ (k : Int) := by omega
      obtain ⟨x, hxk⟩ : ∃ x, xs[k]? = some x := ⟨_, List.getElem?_eq_getElem (by omega)⟩
      obtain ⟨y, hyk⟩ : ∃ y, ys[k]? = some y := ⟨_, List.getElem?_eq_getElem (by omega)⟩
      obtain ⟨la, hbk⟩ : ∃ a, r.body[k]? = some a := ⟨_, List.getElem?_eq_getElem hlt⟩
      obtain ⟨lb, hbk2⟩ : ∃ a, u.body[k]? = some a := ⟨_, List.getElem?_eq_getElem (by rw [← HLM.out]; exact hlt)⟩
      have hvx := HXT.out k x _ hxk hbk
      have hvy := HYT.out k y _ hyk hbk2
      have hsm := HAT.out _ (List.mem_of_getElem? hbk)
      have HT := Lib.hid (show (la.neg == lb.neg && eqT la.atom lb.atom) = true → eqB (r.body.take (k + 1)) (u.body.take (k + 1)) = true from fun h => by rw [eqB_take _ _ k la lb hbk hbk2, HI.out.1, h]; rfl)
      have HN := Lib.hid (eqB_no _ _ k la lb hbk hbk2)
      obtain ⟨bn, nmx, Ax, cx, ax, rfl, hex⟩ := hvx.form
      obtain ⟨bn2, nmy, Ay, cy, ay, rfl, hey⟩ := hvy.form
      subst hex
      subst hey
      obtain ⟨_, hx', htx⟩ := hvx
      obtain ⟨_, hy', hty⟩ := hvy
      injection hx' with _ hx'
      injection hy' with _ hy'
      subst hx'
      subst hy'
      obtain ⟨bA, oA, rfl, _, hlA, hcA⟩ := HXA.out (by omega)
      obtain ⟨bB, oB, rfl, _, hlB, hcB⟩ := HYA.out (by omega)
      have hbw : Below w.heap.size w wr := HB0.out.trans (HB.out.mono HB0.out.size)
      have HCT : Hid (Calls Tryd.prog 48 #[.agg #[.string (bs nmx), .slice Ax ax.length cx], .agg #[.string (bs nmy), .slice Ay ay.length cy]] wr.drew (OutB wr.drew (.bool (eqT (.mk nmx ax) (.mk nmy ay))))) :=
        plTermB hsm wr.drew P P' _ _ _ (htx.keep (fun b hQ hlt => ⟨hQ, hbw.drew.block b hlt⟩) hbw.drew.size) (hty.keep (fun b hQ hlt => ⟨hQ, hbw.drew.block b hlt⟩) hbw.drew.size)
      have pp2 : wr.drew.cell? ⟨w.heap.size, 2, none⟩ = _ := (HB.out.drew.cell (p := ⟨w.heap.size, 2, none⟩) (by simp; omega)).trans HP2.out
      have qq2 : wr.drew.cell? ⟨w.heap.size + 1, 2, none⟩ = _ := (HB.out.drew.cell (p := ⟨w.heap.size + 1, 2, none⟩) (by simp; omega)).trans HQ2.out
      have x0 : wr.drew.cell? ⟨bA, oA + k * 3, none⟩ = some (.bool bn) := (hbw.drew.cell hlA).trans (hcA k _ hxk 0 _ rfl)
      have x1 : wr.drew.cell? ⟨bA, oA + k * 3 + 1, none⟩ = some (.string (bs nmx)) := (hbw.drew.cell hlA).trans (hcA k _ hxk 1 _ rfl)
      have x2 : wr.drew.cell? ⟨bA, oA + k * 3 + 2, none⟩ = some (.slice Ax ax.length cx) := (hbw.drew.cell hlA).trans (hcA k _ hxk 2 _ rfl)
      have y0 : wr.drew.cell? ⟨bB, oB + k * 3, none⟩ = some (.bool bn2) := (hbw.drew.cell hlB).trans (hcB k _ hyk 0 _ rfl)
      have y1 : wr.drew.cell? ⟨bB, oB + k * 3 + 1, none⟩ = some (.string (bs nmy)) := (hbw.drew.cell hlB).trans (hcB k _ hyk 1 _ rfl)
      have y2 : wr.drew.cell? ⟨bB, oB + k * 3 + 2, none⟩ = some (.slice Ay ay.length cy) := (hbw.drew.cell hlB).trans (hcB k _ hyk 2 _ rfl)
      have HBD := Lib.hid HB.out.drew
      simp only at HT HN
      clear hcA hcB hxk hyk hbk hbk2 htx hty hsm hbw HI
      generalize eqT (.mk nmx ax) (.mk nmy ay) = qt at *
      by_cases hbn : bn = bn2
      rotate_left
      focus
        have HNO := Lib.hid (HN.out (by rw [beq_eq_false_iff_ne.2 hbn]; rfl))
        have X0 : wr.cell? ⟨bA, oA + k * 3, none⟩ = some (.bool bn) := x0
        have Y0 : wr.cell? ⟨bB, oB + k * 3, none⟩ = some (.bool bn2) := y0
        have P0 : wr.cell? ⟨w.heap.size, 2, none⟩ = some (.slice (some ⟨bA, oA, none⟩) r.body.length c1) := pp2
        have Q0 : wr.cell? ⟨w.heap.size + 1, 2, none⟩ = some (.slice (some ⟨bB, oB, none⟩) r.body.length c2) := qq2
        clear x0 x1 x2 y0 y1 y2 pp2 qq2 HCT
        cases bn <;> cases bn2
        · exact absurd rfl hbn
        · clear hbn
          go_wp2_with fail
          go_quiet (fail)
          go_wp2_with fail
          go_ret
          exact ⟨(by rw [HRB.out, HNO.out]; first | done | rfl), HB0.out.trans (below_drewN (HB.out.mono HB0.out.size) _)⟩
        · clear hbn
          go_wp2_with fail
          go_quiet (fail)
          go_wp2_with fail
          go_ret
          exact ⟨(by rw [HRB.out, HNO.out]; first | done | rfl), HB0.out.trans (below_drewN (HB.out.mono HB0.out.size) _)⟩
        · exact absurd rfl hbn
      subst hbn
      have HT2 := Lib.hid (fun (h : qt = true) => HT.out (by rw [h]; simp))
      have HN2 := Lib.hid (fun (h : qt = false) => HN.out (by rw [h]; simp))
      clear HT HN
      go_wp2_with fail
      refine region_tail 26 (by kernel_rfl) (by kernel_rfl) ?_
      generalize wr.drew = wd at *
      simp only [List.take_succ_cons, List.take_zero, List.drop_succ_cons, List.drop_zero]
      repeat still_step
      refine wpStill_nil ?_
      go_wp2_with fail
      refine HCT.out.mono ?_
      rintro e w2 ⟨rfl, hb2⟩
      have HB2 := Lib.hid (HBD.out.trans (hb2.mono HBD.out.size))
      clear hb2 x0 x1 x2 y0 y1 y2 pp2 qq2
      cases qt
      · go_wp2_with fail
        go_ret
        exact ⟨(by rw [HRB.out, HN2.out (by simp)]; first | done | rfl), HB0.out.trans (HB2.out.mono HB0.out.size)⟩
      · go_wp2_with fail
        go_roundw
        case measure => simp [intOf]; omega
        case rel => exact ⟨k + 1, by omega, by first | rfl | (congr 1; omega), HT2.out (by simp), HB2.out⟩
    · have hkn : k = r.body.length := by omega
      subst hkn
      have HE : Hid (eqR r u = true) := by
        have h := HI.out.1
        rw [List.take_length, HLM.out, List.take_length] at h
        exact HRB.out.trans h
      clear HI
      go_wp2_with fail
      go_ret
      exact ⟨(by rw [HE.out]; first | done | rfl), HB0.out.trans (HB.out.mono HB0.out.size)⟩
end Go.Proofs.YthkbnjojkeeffaaDoor
