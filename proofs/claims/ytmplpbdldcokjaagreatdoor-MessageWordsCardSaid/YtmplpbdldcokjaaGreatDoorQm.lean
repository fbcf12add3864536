/- The walk of (*message.words).terms. -/
import Derived.Test.YtmplpbdldcokjaaGreatDoorQl
import Derived.Test.YtmplpbdldcokjaaGreatDoorXv
import Derived.Test.YtmplpbdldcokjaaGreatDoorXe
namespace Go.Proofs.YtmplpbdldcokjaaGreatDoor
open Go Go.RowKit Go.Shelf
set_option linter.unusedSimpArgs false
set_option linter.unusedVariables false

theorem own_app {w : World} {base : Nat} {v : Value} {acc : List Tm} (h : OwnL TmV 25 2 w base v acc) {B : Nat} {x : List Value} {t : Tm} (hx : TmV w (fun b => B ≤ b) x t) (hl : x.length = 2) (hB : base ≤ B) (hv : ∀ k, v.ownBlock = some k → k < B) :
    ∃ xs, w.ownsRow base 25 2 v acc.length xs ∧ ∀ (g cp : Nat) (w6 : World) (o : Obj), w6.ownsRow base 25 2 (.slice (some ⟨g, 0, none⟩) (acc.length + 1) cp) (acc.length + 1) (xs ++ x) →
      (w.alloc o).grownBy w6 v.ownBlock → (v.ownBlock = some g ∨ g = w.heap.size + 1) → OwnL TmV 25 2 w6 base (.slice (some ⟨g, 0, none⟩) (acc.length + 1) cp) (acc ++ [t]) := by
  obtain ⟨xs, h1, h2, h3, h4⟩ := h
  refine ⟨xs.flatten, h3, fun g cp w6 o hown hgrow hat => ?_⟩
  exact OwnL.push keeps_tm h1 h2 h4 (keeps_tm _ _ _ _ _ _ hx (fun b hb _ => ⟨⟨by omega, fun e => by have := hv b e.symm; omega⟩, rfl⟩) (Nat.le_refl _)) hl (wA := w.alloc o) (fun b hb => Below.heap_alloc w o b hb) (by simp) hown hgrow
    (by rcases hat with hat | hat
        · exact .inl hat
        · exact .inr (by omega))
theorem allO_take {ps : List (List UInt8)} {k : Nat} {x : List UInt8} {acc : List Tm} (h : ps[k]? = some x) (ha : allO (ps.take k) = some acc) :
    (∀ t, termO x = some t → allO (ps.take (k + 1)) = some (acc ++ [t])) ∧ (termO x = none → allO ps = none) := by
  induction ps generalizing k acc with
  | nil => simp at h
  | cons y ps ih =>
    cases k with
    | zero =>
      simp at h
      subst h
      simp [allO] at ha
      subst ha
      constructor
      · intro t ht; simp [allO, ht]
      · intro ht; rw [allO, ht]
    | succ k =>
      rw [List.take_succ_cons, allO] at ha
      split at ha
      · rename_i t0 l0 h0 hl0
        injection ha with ha
        subst ha
        obtain ⟨i1, i2⟩ := ih (k := k) (by simpa using h) hl0
        constructor
        · intro t ht
          rw [List.take_succ_cons, allO, h0, i1 t ht]
          rfl
        · intro ht
          rw [allO, h0, i2 ht]
      · cases ha
theorem allO_len : ∀ {l : List (List UInt8)} {a : List Tm}, allO l = some a → a.length = l.length
  | [], a, h => by injection h with h; subst h; rfl
  | x :: r, a, h => by
    rw [allO] at h
    split at h
    · rename_i t l ht hl
      injection h with h
      subst h
      have := allO_len hl
      simp [this]
    · cases h
theorem pieces_le : ∀ s : List UInt8, (piecesF s).length ≤ s.length + 1 ∧ ∀ x ∈ piecesF s, x.length ≤ s.length
  | [] => by simp [piecesF]
  | [c] => by simp [piecesF]
  | c :: d :: r => by
    rw [piecesF]
    split
    · have ih := pieces_le r
      refine ⟨by simp; omega, fun x hx => ?_⟩
      rcases List.mem_cons.1 hx with rfl | hx
      · simp
      · have := ih.2 x hx; simp; omega
    · have ih := pieces_le (d :: r)
      cases hp : piecesF (d :: r) with
      | nil => exact absurd hp (piecesF_ne _)
      | cons y l =>
        rw [hp] at ih
        refine ⟨by simp [preP] at ih ⊢; omega, fun x hx => ?_⟩
        simp only [preP, List.mem_cons] at hx
        rcases hx with rfl | hx
        · have := ih.2 y (by simp); simp at this ⊢; omega
        · have := ih.2 x (by simp [hx]); simp at this ⊢; omega
/-- what terms leaves -/
def TWP (w : World) (q s : Nat) (l : List (List UInt8)) (bad : Bool) (e : Ending) (w' : World) : Prop :=
  ∃ (A : Option Addr) (cap : Nat), e = .returned (.slice A ((tmO l).getD []).length cap) ∧ SlV TmV 2 w' (fun b => w.heap.size ≤ b) A ((tmO l).getD []) ∧ ∃ o, WS w' q s o l.tail (bad || (tmO l).isNone) ∧ w.grownBy w' (some q)
theorem slv_none (w : World) (P : Nat → Prop) : SlV TmV 2 w P none [] := ⟨[], rfl, fun h => by simp at h, fun i x a h => by simp at h⟩

set_option maxHeartbeats 16000000 in
set_option maxRecDepth 100000 in
theorem wterms_any (w : World) (q s o : Nat) (l : List (List UInt8)) (bad : Bool) (h : WS w q s o l bad) (hq : 9 ≤ q) (hm : Mw w) (hl : (l.headD []).length ≤ 1000000) (hu : ∀ t, txO l = some t → t.length ≤ 1000000) :
    Calls Tryz.prog 30 #[.pointer (some ⟨q, 0, none⟩)] w (TWP w q s l bad) := by
  have CT := Lib.hid (wtext_any w q s o l bad h (by omega))
  have HMW := Lib.hid (fun (y : World) (hy : w.grownBy y (some q)) => hm.grown hy hq)
  have HQ : Hid (tmO l = (txO l).bind itemsF) := by
    unfold tmO txO termsP
    cases l <;> rfl
  have hqw := heap_lt h.blk
  clear h hl hm
  cases ht : txO l with
  | none =>
    have HT : Hid (tmO l = none) := by rw [Hid, HQ.out, ht]; rfl
    rw [ht] at CT
    rw [show bs ((none : Option (List UInt8)).getD []) = ⟨#[]⟩ from rfl] at CT
    clear ht hu HMW
    go_enter Tryz.func30, Tryz.ntmps30
    go_wp2_with fail
    refine CT.out.mono ?_
    rintro e w1 ⟨rfl, o1, h1, g1⟩
    have H1 := Lib.hid h1
    have G1 := Lib.hid g1
    clear h1 g1
    go_wp2_with fail
    go_ret
    refine ⟨none, 0, ?_, ?_, o1, ?_, G1.out⟩
    · rw [HT.out]; rfl
    · rw [HT.out]; exact slv_none _ _
    · rw [HT.out]; simpa using H1.out
  | some t =>
    rw [ht] at CT HQ
    have HTL := Lib.hid (hu t ht)
    clear hu
    replace ht : True := trivial
    clear ht
    by_cases ht0 : t = []
    · subst ht0
      have HT : Hid (tmO l = some []) := by rw [Hid, HQ.out]; rfl
      rw [show bs ((some ([] : List UInt8)).getD []) = ⟨#[]⟩ from rfl] at CT
      clear HMW
      go_enter Tryz.func30, Tryz.ntmps30
      go_wp2_with fail
      refine CT.out.mono ?_
      rintro e w1 ⟨rfl, o1, h1, g1⟩
      have H1 := Lib.hid h1
      have G1 := Lib.hid g1
      clear h1 g1
      go_wp2_with fail
      go_ret
      refine ⟨none, 0, ?_, ?_, o1, ?_, G1.out⟩
      · rw [HT.out]; rfl
      · rw [HT.out]; exact slv_none _ _
      · rw [HT.out]; simpa using H1.out
    have HT : Hid (tmO l = allO (piecesF t)) := by
      rw [Hid, HQ.out]
      show itemsF t = _
      unfold itemsF
      rw [if_neg (by cases t with | nil => exact absurd rfl ht0 | cons a r => simp)]
    have e0 : (bs t).toList.isEmpty = false := by
      rw [ByteArray.toList_eq, toList_bs]
      cases t with
      | nil => exact absurd rfl ht0
      | cons a r => rfl
    rw [show (some t).getD [] = t from rfl] at CT
    have CS := Lib.hid (fun (y : World) (hy : Mw y) => split_any y t [44, 32] (by simp) (by have := HTL.out; omega) hy (piecesF t) (split_pieces t))
    rw [show bs [44, 32] = ⟨#[44, 32]⟩ from rfl] at CS
    have HPL : Hid ((piecesF t).length ≤ 1000001 ∧ ∀ x ∈ piecesF t, x.length ≤ 1000000) := by
      have h1 := pieces_le t
      have h2 := HTL.out
      exact ⟨by omega, fun x hx => by have := h1.2 x hx; omega⟩
    clear ht0 HTL HQ
    generalize bs t = st at *
    generalize piecesF t = ps at *
    obtain ⟨i0, hi0, hz0, hz1, hz2⟩ := info_parts infoTerm
    have HI0 := Lib.hid hi0; have HZ0 := Lib.hid hz0; have HZ1 := Lib.hid hz1; have HZ2 := Lib.hid hz2
    clear hi0 hz0 hz1 hz2
    go_enter Tryz.func30, Tryz.ntmps30
    go_wp2_with fail
    refine CT.out.mono ?_
    rintro e w1 ⟨rfl, o1, h1, g1⟩
    have H1 := Lib.hid h1
    have G1 := Lib.hid g1
    have HM1 := Lib.hid (HMW.out w1 g1)
    clear h1 g1 CT
    have CS1 := Lib.hid (CS.out w1 HM1.out)
    clear CS
    go_wp2_with fail
    refine CS1.out.mono ?_
    rintro e w2 ⟨rfl, hw2⟩
    have HB2 : Hid (Below w1.heap.size w1 w2) := by rw [Hid, hw2]; exact (Below.refl _ _).alloc (Nat.le_refl _) _
    have HSB : Hid (w2.heap[w1.heap.size]? = some (.cells (ps.map fun x => Value.string (bs x)).toArray 9 (0, 0))) := by rw [Hid, hw2]; exact heap_alloc_new w1 _
    have hlt1 := heap_lt HSB.out
    generalize hs1 : w1.heap.size = s1 at *
    have HS1 := Lib.hid hs1
    clear hw2 hs1 CS1
    go_wp2_with fail
    go_loopw [4, 17] (fun v i wr => ∃ (k : Nat) (acc : List Tm), k ≤ ps.length ∧ i = .int .i64 k ∧ Hid (allO (ps.take k) = some acc ∧ OwnL TmV 25 2 wr w2.heap.size v acc ∧ Below w2.heap.size w2 wr)) (fun _ i _ => ps.length - (intOf i).toNat)
    case atStart => exact ⟨0, [], Nat.zero_le _, rfl, rfl, OwnL.nil _ _ _ _ _, Below.refl _ _⟩
    case round =>
      obtain ⟨k, acc, hk, rfl, HX⟩ := hrel
      have hs2 : s1 ≤ w2.heap.size := by have := HB2.out.size; have := HS1.out; omega
      have HBR := Lib.hid (HB2.out.trans (HX.out.2.2.mono hs2))
      have hsr : s1 ≤ wr.heap.size := Nat.le_trans hs2 HX.out.2.2.size
      by_cases hlk : k < ps.length
      rotate_left
      focus
        obtain rfl : k = ps.length := by omega
        have ha := HX.out.1
        rw [List.take_length] at ha
        have HTT : Hid (tmO l = some acc) := by rw [Hid, HT.out]; exact ha
        obtain ⟨A, cp, rfl⟩ := HX.out.2.1.len
        have HSL := Lib.hid (HX.out.2.1.sl keeps_tm)
        clear ha
        go_wp2_with fail
        go_ret
        have hsz := G1.out.size
        have hsz2 := HB2.out.size
        have hs1 := HS1.out
        refine ⟨A, cp, ?_, ?_, o1, ?_, ?_⟩
        · rw [HTT.out]; rfl
        · rw [HTT.out]; exact HSL.out.keep keeps_tm (fun b hb _ => ⟨by omega, rfl⟩) (Nat.le_refl _)
        · rw [HTT.out]
          have h := H1.out.keep (w' := wr) (by rw [hs1]; exact HBR.out)
          simpa using h
        · exact grown_trans G1.out (below_grown (by rw [hs1]; exact HBR.out) (some q))
      obtain ⟨x, hx⟩ : ∃ x, ps[k]? = some x := ⟨_, List.getElem?_eq_getElem hlk⟩
      have cx : wr.cell? ⟨s1, k, none⟩ = some (.string (bs x)) := by
        have h1 := (HX.out.2.2.cell (p := ⟨s1, k, none⟩) hlt1).trans (cell_blk HSB.out k)
        rw [h1]
        simp [hx]
      have hxl := HPL.out.2 x (List.mem_of_getElem? hx)
      have CP := Lib.hid (pterm_any wr (bs x) (by rw [size_bs]; omega) ((HM1.out.below (by rw [HS1.out]; exact HBR.out)).wd))
      rw [toList_bs] at CP
      have HAT := Lib.hid (allO_take hx HX.out.1)
      have hkl : ps.length ≤ 1000001 := HPL.out.1
      generalize bs x = sx at *
      clear hx hxl
      go_wp2_with fail
      refine CP.out.mono ?_
      clear CP cx
      rintro e w4 ⟨hb4, hm4⟩
      have HB4 := Lib.hid hb4
      clear hb4
      cases hr : termRF x with
      | err p z =>
        rw [hr] at hm4
        simp only at hm4
        subst hm4
        have hz := nz_termR hr
        have hz2 : (z != 0) = true := by simpa using hz
        have HTT : Hid (tmO l = none) := by
          rw [Hid, HT.out]
          exact HAT.out.2 (by unfold termO; rw [hr])
        have HB5 := Lib.hid ((HBR.out.trans (HB4.out.mono hsr)).alloc (Nat.le_trans hsr HB4.out.size) (.cells #[.string ⟨#[]⟩, .slice none 0 0] 25))
        have HW5 := Lib.hid (H1.out.keep (w' := w4.alloc (.cells #[.string ⟨#[]⟩, .slice none 0 0] 25)) (by rw [HS1.out]; exact HB5.out))
        have HX5 := Lib.hid HW5.out.wrong
        obtain ⟨c0, c1, f0, f1⟩ := cells_two HW5.out.blk
        clear hr hz
        go_wp2_with fail
        go_ret
        refine ⟨none, 0, ?_, ?_, o1, ?_, ?_⟩
        · rw [HTT.out]; rfl
        · rw [HTT.out]; exact slv_none _ _
        · rw [HTT.out]; simpa using HX5.out.1
        · exact grown_trans (grown_trans G1.out (below_grown (by rw [HS1.out]; exact HB5.out) (some q))) HX5.out.2
      | ok t =>
        rw [hr] at hm4
        simp only at hm4
        obtain ⟨v4, rfl, y, rfl, htm⟩ := hm4
        obtain ⟨nm', A', cp', a', rfl, rfl⟩ := htm.form
        have HTO := Lib.hid (HAT.out.1 _ (show termO x = some (.mk nm' a') by unfold termO; rw [hr]))
        obtain ⟨A, cp, hv⟩ := HX.out.2.1.len
        subst hv
        have hacc : acc.length ≤ ps.length := by
          have := allO_len HX.out.1
          rw [List.length_take] at this
          omega
        have HOB := Lib.hid (one_box w4 (.cells #[.string (bs nm'), .slice A' a'.length cp'] 25))
        have HB5 := Lib.hid (HB4.out.trans (HOB.out.1.mono HB4.out.size))
        have hO5 := HX.out.2.1.below keeps_tm HB5.out
        have ht5 := htm.keep (P' := fun b => wr.heap.size ≤ b) (fun b hp hb => ⟨hp, HOB.out.1.block b hb⟩) HOB.out.1.size
        obtain ⟨xs, hx1, hx2⟩ := own_app hO5 ht5 rfl HX.out.2.2.size (fun j hj => by obtain ⟨_, _, _, h3, _⟩ := HX.out.2.1; exact (h3.lt j hj).2)
        have HX1 := Lib.hid hx1
        have HX2 := Lib.hid hx2
        have HBW := Lib.hid (HX.out.2.2.trans (HB5.out.mono HX.out.2.2.size))
        have hbs : w2.heap.size ≤ (w4.alloc (.cells #[.string (bs nm'), .slice A' a'.length cp'] 25)).heap.size := HBW.out.size
        have c0 := cell_blk HOB.out.2 0
        have c1 := cell_blk HOB.out.2 1
        clear hx1 hx2 htm ht5 hO5 hr
        generalize hW5 : w4.alloc (.cells #[.string (bs nm'), .slice A' a'.length cp'] 25) = w5 at *
        go_wp2_with (at_builtin; refine wpList_append_lies _ rfl _ _ _ rfl w2.heap.size 25 i0 _ 2 40 Tryz.underlying23 HI0.out HZ0.out HZ1.out HZ2.out rfl (by omega) (.slice A acc.length cp) acc.length xs rfl (HX1.out.alloc _) ⟨w5.heap.size, 0, none⟩ 1 1 [.string (bs nm'), .slice A' a'.length cp'] rfl rfl (World.news_of_block (cs := #[.string (bs nm'), .slice A' a'.length cp']) (t := 25) (fr := (0, 0)) (heap_alloc_new w5 _)) (by simp [Value.oneCell']) (by omega) (by unfold maxLen; omega) (by omega) (by simp; omega) (w5.heap.size + 1) (by simp) ?_; intro g cp6 w6 hown6 hgrow hat hlt6; have HC6 := Lib.hid (HX2.out g cp6 w6 _ hown6 hgrow hat); have HB6 := Lib.hid ((HBW.out.alloc hbs (.cells #[.string (bs nm'), .slice A' a'.length cp'] 25)).grown hgrow (by simp; omega) (fun j hj => (HX1.out.lt j hj).1)); clear hown6 hgrow hat hlt6)
        go_roundw
        case rel => exact ⟨k + 1, acc ++ [.mk nm' a'], by omega, by go_num, HTO.out, HC6.out, HB6.out⟩
        case measure => simp [intOf]; omega
end Go.Proofs.YtmplpbdldcokjaaGreatDoor
