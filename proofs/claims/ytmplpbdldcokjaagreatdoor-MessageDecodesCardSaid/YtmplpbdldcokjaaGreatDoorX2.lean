/- Merged texts: The walk of the reference's Text. The walks of term.within, term.Valid, printer.atom and the reference's Atom. The walks of printer.Terms and the reference's Terms. -/
import Derived.Test.YtmplpbdldcokjaaGreatDoorXg
import Derived.Test.YtmplpbdldcokjaaGreatDoorWn
namespace Go.Proofs.YtmplpbdldcokjaaGreatDoor
/- The walk of the reference's Text. -/
section
open Go Go.RowKit Go.Shelf
set_option linter.unusedSimpArgs false

theorem str_add {P : Program} {w : World} {a b : ByteArray} (h : a.size + b.size ≤ maxLen) : (Op.stringOp .add a b).run P w = .ok (.string (a ++ b)) w := by
  unfold maxLen at h
  simp [Op.stringOp]
  omega
theorem bs_app (a b : List UInt8) : bs a ++ bs b = bs (a ++ b) := by
  apply ByteArray.ext
  unfold bs
  rw [ByteArray.data_append]
  simp
theorem str_add_l {P : Program} {w : World} (a b : List UInt8) (h : a.length + b.length ≤ 1000000000) : (Op.stringOp .add (bs a) (bs b)).run P w = .ok (.string (bs (a ++ b))) w := by
  rw [← bs_app]
  exact str_add (by unfold bs; show a.toArray.size + b.toArray.size ≤ _; rw [List.size_toArray, List.size_toArray]; unfold maxLen; omega)

set_option maxHeartbeats 8000000 in
set_option maxRecDepth 100000 in
theorem rtext_any (N : Nat) : ∀ (t : Tm) (w : World) (P : Nat → Prop) (nm : List UInt8) (A : Option Addr) (cp : Nat) (l : List Tm), wT t ≤ N → t = .mk nm l → TmV w P [.string (bs nm), .slice A l.length cp] t → (∀ b, P b → b < w.heap.size) → wT t ≤ 400000000 →
    Calls Tryz.prog 71 #[.agg #[.string (bs nm), .slice A l.length cp]] w (OutB w (.string (bs (textT t)))) := by
  induction N with
  | zero =>
    intro t w P nm A cp l hN ht
    subst ht
    rw [wT] at hN
    omega
  | succ N ih =>
    intro t w P nm A cp l hN ht hv hP hw
    subst ht
    rw [wT] at hN hw
    have IH := Lib.hid ih
    have HBX := Lib.hid (one_box w (.cells #[.string (bs nm), .slice A l.length cp] 25))
    obtain ⟨xs', hxl, harr, hel⟩ := hv.parts
    have HV := Lib.hid (And.intro hxl (And.intro harr (And.intro hel hP)))
    clear ih hv hxl harr hel hP
    by_cases hl0 : l = []
    · subst hl0
      rw [textT]
      go_enter Tryz.func71, Tryz.ntmps71
      go_wp2_with fail
      go_ret
      exact ⟨rfl, HBX.out.1⟩
    have hne : 0 < l.length := List.length_pos_iff.2 hl0
    have HT := Lib.hid (textT_node nm l hl0)
    have hz : ((l.length : Int) == 0) = false := by simp; omega
    have hll := wL_len l
    have hlb : l.length ≤ 450000000 := by omega
    have hadd0 : ∀ y : World, (Op.stringOp .add (bs nm) ⟨#[40]⟩).run Tryz.prog y = .ok (.string (bs (nm ++ [40] ++ textA (l.take 0)))) y := fun y => by
      have := str_add_l (P := Tryz.prog) (w := y) nm [40] (by simp; omega)
      rw [List.take_zero, textA, List.append_nil]
      exact this
    clear hl0
    generalize hs0 : bs (nm ++ [40] ++ textA (l.take 0)) = s0 at *
    have HS0 := Lib.hid hs0
    clear hs0
    go_enter Tryz.func71, Tryz.ntmps71
    go_wp2_with fail
    clear hadd0
    generalize hbn : bs nm = bnm at *
    have HBN := Lib.hid hbn
    clear hbn
    generalize w.alloc (.cells #[.string bnm, .slice A l.length cp] 25) = w0 at *
    go_loopw [3, 17] (fun s i wr => ∃ k : Nat, k ≤ l.length ∧ i = .int .i64 k ∧ s = .string (bs (nm ++ [40] ++ textA (l.take k))) ∧ Hid (Below w0.heap.size w0 wr)) (fun _ i _ => l.length - (intOf i).toNat)
    case atStart => exact ⟨0, Nat.zero_le _, rfl, by rw [HS0.out], Below.refl _ _⟩
    case round =>
      clear HS0
      obtain ⟨k, hk, rfl, rfl, HB⟩ := hrel
      have hlA := textA_len (l.take k)
      have HBW := Lib.hid (HBX.out.1.trans (HB.out.mono HBX.out.1.size))
      by_cases hlk : k < l.length
      rotate_left
      · obtain rfl : k = l.length := by omega
        rw [List.take_length] at hlA ⊢
        have hadd : ∀ y : World, (Op.stringOp .add (bs (nm ++ [40] ++ textA l)) ⟨#[41]⟩).run Tryz.prog y = .ok (.string (bs (textT (.mk nm l)))) y := fun y => by
          have := str_add_l (P := Tryz.prog) (w := y) (nm ++ [40] ++ textA l) [41] (by simp; omega)
          rw [HT.out]
          simp only [List.append_assoc, List.cons_append, List.nil_append] at this ⊢
          exact this
        generalize bs (nm ++ [40] ++ textA l) = sk at *
        generalize bs (textT (.mk nm l)) = sf at *
        go_wp2_with fail
        go_ret
        exact ⟨rfl, HBW.out⟩
      obtain ⟨t, ht⟩ : ∃ t, l[k]? = some t := ⟨_, List.getElem?_eq_getElem hlk⟩
      obtain ⟨x, hx⟩ : ∃ x, xs'[k]? = some x := ⟨_, List.getElem?_eq_getElem (by rw [HV.out.1]; exact hlk)⟩
      have hv := HV.out.2.2.1 k x t hx ht
      obtain ⟨nm', A', cp', l', rfl, rfl⟩ := hv.form
      obtain ⟨b0, o0, rfl, hb0, hbl, hc⟩ := HV.out.2.1 (by rw [HV.out.1]; omega)
      have f0 := (HBW.out.cell (p := ⟨b0, o0 + k * 2, none⟩) hbl).trans (hc k _ hx 0 _ rfl)
      have f1 := (HBW.out.cell (p := ⟨b0, o0 + k * 2 + 1, none⟩) hbl).trans (hc k _ hx 1 _ rfl)
      have hw2 := wL_at ht
      have htl := textT_len (.mk nm' l')
      have HTK := Lib.hid (textA_take ht)
      have HVT := Lib.hid hv
      have HBR := Lib.hid ((HB.out.block _ (Array.getElem?_eq_some_iff.1 HBX.out.2).1).trans HBX.out.2)
      have c1 := cell_blk HBR.out 1
      have CT := Lib.hid (fun (y : World) (hy : Below wr.heap.size wr y) => IH.out (.mk nm' l') y P nm' A' cp' l' (by omega) rfl (HVT.out.keep (fun b' hp hb' => ⟨hp, ((HBW.out.trans (hy.mono HBW.out.size)).block b' hb')⟩) (Nat.le_trans HBW.out.size hy.size)) (fun b' hp => Nat.lt_of_lt_of_le (HV.out.2.2.2 b' hp) (Nat.le_trans HBW.out.size hy.size)) (by omega))
      clear hv hx hc ht HBR
      by_cases hk0 : k = 0
      focus
        have d1 : decide ((0 : Int) < (k : Int)) = false := by simp; omega
        have d2 : ¬ 0 < k := by omega
        rw [if_pos hk0, List.nil_append] at HTK
        have hadd : ∀ y : World, (Op.stringOp .add (bs (nm ++ [40] ++ textA (l.take k))) (bs (textT (.mk nm' l')))).run Tryz.prog y = .ok (.string (bs (nm ++ [40] ++ textA (l.take (k + 1))))) y := fun y => by
          have := str_add_l (P := Tryz.prog) (w := y) (nm ++ [40] ++ textA (l.take k)) (textT (.mk nm' l')) (by simp; omega)
          rw [HTK.out, ← List.append_assoc]
          exact this
        clear hk0
        generalize hq : bs (nm ++ [40] ++ textA (l.take (k + 1))) = s2 at *
        have HQ := Lib.hid hq
        clear hq
        generalize bs (nm ++ [40] ++ textA (l.take k)) = sk at *
        generalize bs (textT (.mk nm' l')) = st at *
        go_wp2_with fail
        refine (CT.out _ (Below.refl _ _)).mono ?_
        rintro e w5 ⟨rfl, hb⟩
        have HB5 := Lib.hid (HB.out.trans (hb.mono HB.out.size))
        clear hb
        go_wp2_with fail
        go_roundw
        case rel => exact ⟨k + 1, by omega, by go_num, by rw [HQ.out], HB5.out⟩
        case measure => simp [intOf]; omega
      have d1 : decide ((0 : Int) < (k : Int)) = true := by simp; omega
      have d2 : 0 < k := by omega
      rw [if_neg hk0] at HTK
      have hadd1 : ∀ y : World, (Op.stringOp .add (bs (nm ++ [40] ++ textA (l.take k))) ⟨#[44]⟩).run Tryz.prog y = .ok (.string (bs (nm ++ [40] ++ textA (l.take k) ++ [44]))) y := fun y => str_add_l (nm ++ [40] ++ textA (l.take k)) [44] (by simp; omega)
      have hadd : ∀ y : World, (Op.stringOp .add (bs (nm ++ [40] ++ textA (l.take k) ++ [44])) (bs (textT (.mk nm' l')))).run Tryz.prog y = .ok (.string (bs (nm ++ [40] ++ textA (l.take (k + 1))))) y := fun y => by
        have := str_add_l (P := Tryz.prog) (w := y) (nm ++ [40] ++ textA (l.take k) ++ [44]) (textT (.mk nm' l')) (by simp; omega)
        rw [HTK.out]
        simp only [List.append_assoc] at this ⊢
        exact this
      clear hk0
      generalize hq : bs (nm ++ [40] ++ textA (l.take (k + 1))) = s2 at *
      have HQ := Lib.hid hq
      clear hq
      generalize bs (nm ++ [40] ++ textA (l.take k) ++ [44]) = s1 at *
      generalize bs (nm ++ [40] ++ textA (l.take k)) = sk at *
      generalize bs (textT (.mk nm' l')) = st at *
      go_wp2_with fail
      refine (CT.out _ (Below.refl _ _)).mono ?_
      rintro e w5 ⟨rfl, hb⟩
      have HB5 := Lib.hid (HB.out.trans (hb.mono HB.out.size))
      clear hb
      go_wp2_with fail
      go_roundw
      case rel => exact ⟨k + 1, by omega, by go_num, by rw [HQ.out], HB5.out⟩
      case measure => simp [intOf]; omega

end
/- The walks of term.within, term.Valid, printer.atom and the reference's Atom. -/
section
open Go Go.RowKit Go.Shelf
set_option linter.unusedSimpArgs false

set_option maxHeartbeats 1000000 in
theorem isnum_any (w : World) (s : ByteArray) : Calls Tryz.prog 110 #[.string s] w fun e w' => e = .returned (.bool (numF s.data.toList)) ∧ w = w' := by
  have CN := Lib.hid (number_any w s)
  go_enter Tryz.func110, Tryz.ntmps110
  go_wp2_with fail
  refine CN.out.mono ?_
  rintro e w1 ⟨rfl, rfl⟩
  go_wp2_with fail
  go_ret
  exact ⟨rfl, rfl⟩
set_option maxHeartbeats 8000000 in
set_option maxRecDepth 100000 in
theorem within_any (v : Bool) : ∀ (n : Nat) (_ : n ≤ 4) (w : World) (P : Nat → Prop) (t : Tm) (nm : List UInt8) (A : Option Addr) (cp : Nat) (l : List Tm), t = .mk nm l → TmV w P [.string (bs nm), .slice A l.length cp] t → TmB t → (∀ b, P b → b < w.heap.size) →
    Calls Tryz.prog 86 #[.agg #[.string (bs nm), .slice A l.length cp], .int .i64 n, .bool v] w (OutB w (.bool (validT v n t))) := by
  intro n
  induction n with
  | zero =>
    intro _ w P t nm A cp l ht hv hb hP
    have HB := Lib.hid (one_box w (.cells #[.string (bs nm), .slice A l.length cp] 25)).1
    clear hv hP hb
    go_enter Tryz.func86, Tryz.ntmps86
    go_wp2_with fail
    go_ret
    exact ⟨by rw [validT]; rfl, HB.out⟩
  | succ n ih =>
    intro h4 w P t nm A cp l ht hv hb hP
    subst ht
    cases hb with
    | mk _ _ hn hl hall =>
    have IH := Lib.hid ih
    have HBX := Lib.hid (one_box w (.cells #[.string (bs nm), .slice A l.length cp] 25))
    obtain ⟨xs', hxl, harr, hel⟩ := hv.parts
    have HV := Lib.hid (And.intro hxl (And.intro harr (And.intro hel (And.intro hP hall))))
    clear ih hv hxl harr hel hP hall
    have hn1 : ((n + 1 : Nat) : Int) = (n : Int) + 1 := by omega
    rw [hn1]
    have hnn : (0 : Int) ≤ (n : Int) := by omega
    have hn4 : (n : Int) ≤ 3 := by omega
    clear hn1
    have CN := Lib.hid (fun (y : World) => name_any y (bs nm) (by rw [size_bs]; exact hn))
    have CV := Lib.hid (fun (y : World) => variable_any y (bs nm) (by rw [size_bs]; exact hn))
    have CU := Lib.hid (fun (y : World) => isnum_any y (bs nm))
    rw [toList_bs] at CN CV CU
    by_cases hl0 : l = []
    · subst hl0
      rw [validT_leaf]
      generalize nameF nm = p1 at *
      generalize numF nm = p2 at *
      generalize varF nm = p3 at *
      have hlt := (Array.getElem?_eq_some_iff.1 HBX.out.2).1
      cases p1
      rotate_left
      focus
        go_enter Tryz.func86, Tryz.ntmps86
        go_wp2_with fail
        generalize w.alloc (.cells #[.string (bs nm), .slice A ([] : List Tm).length cp] 25) = w0 at *
        refine (CN.out w0).mono ?_
        rintro e w1 ⟨rfl, hb⟩
        have HB1 := Lib.hid (HBX.out.1.trans (hb.mono HBX.out.1.size))
        clear hb
        go_wp2_with fail
        go_ret
        exact ⟨by simp, HB1.out⟩
      cases p2
      rotate_left
      focus
        go_enter Tryz.func86, Tryz.ntmps86
        go_wp2_with fail
        generalize w.alloc (.cells #[.string (bs nm), .slice A ([] : List Tm).length cp] 25) = w0 at *
        refine (CN.out w0).mono ?_
        rintro e w1 ⟨rfl, hb⟩
        have HB1 := Lib.hid (HBX.out.1.trans (hb.mono HBX.out.1.size))
        have c0 := (hb.cell (p := ⟨w.heap.size, 0, none⟩) hlt).trans (cell_blk HBX.out.2 0)
        clear hb
        go_wp2_with fail
        refine (CU.out w1).mono ?_
        rintro e w2 ⟨rfl, rfl⟩
        go_wp2_with fail
        go_ret
        exact ⟨by simp, HB1.out⟩
      cases v
      focus
        go_enter Tryz.func86, Tryz.ntmps86
        go_wp2_with fail
        generalize w.alloc (.cells #[.string (bs nm), .slice A ([] : List Tm).length cp] 25) = w0 at *
        refine (CN.out w0).mono ?_
        rintro e w1 ⟨rfl, hb⟩
        have HB1 := Lib.hid (HBX.out.1.trans (hb.mono HBX.out.1.size))
        have c0 := (hb.cell (p := ⟨w.heap.size, 0, none⟩) hlt).trans (cell_blk HBX.out.2 0)
        clear hb
        go_wp2_with fail
        refine (CU.out w1).mono ?_
        rintro e w2 ⟨rfl, rfl⟩
        go_wp2_with fail
        go_ret
        exact ⟨by simp, HB1.out⟩
      go_enter Tryz.func86, Tryz.ntmps86
      go_wp2_with fail
      generalize w.alloc (.cells #[.string (bs nm), .slice A ([] : List Tm).length cp] 25) = w0 at *
      refine (CN.out w0).mono ?_
      rintro e w1 ⟨rfl, hb⟩
      have HB1 := Lib.hid (HBX.out.1.trans (hb.mono HBX.out.1.size))
      have c0 := (hb.cell (p := ⟨w.heap.size, 0, none⟩) hlt).trans (cell_blk HBX.out.2 0)
      clear hb
      go_wp2_with fail
      refine (CU.out w1).mono ?_
      rintro e w2 ⟨rfl, rfl⟩
      go_wp2_with fail
      refine (CV.out w1).mono ?_
      rintro e w2 ⟨rfl, hb⟩
      have HB2 := Lib.hid (HB1.out.trans (hb.mono HB1.out.size))
      clear hb
      go_wp2_with fail
      go_ret
      exact ⟨by simp, HB2.out⟩
    have hne : 0 < l.length := List.length_pos_iff.2 hl0
    have HT := Lib.hid (validT_node (v := v) (n := n) (nm := nm) (l := l) (by omega))
    have hz : ((l.length : Int) == 0) = false := by simp; omega
    clear hl0 CV CU
    by_cases h5 : 4 < l.length
    · have d5 : (4 : Int) < (l.length : Int) := by omega
      go_enter Tryz.func86, Tryz.ntmps86
      go_wp2_with fail
      go_ret
      exact ⟨by rw [HT.out, decide_eq_false (by omega : ¬ l.length ≤ 4)]; simp, HBX.out.1⟩
    have d5 : decide ((4 : Int) < (l.length : Int)) = false := by simp; omega
    have hle : l.length ≤ 4 := by omega
    clear h5
    go_enter Tryz.func86, Tryz.ntmps86
    go_wp2_with fail
    clear d5
    generalize w.alloc (.cells #[.string (bs nm), .slice A l.length cp] 25) = w0 at *
    go_loopw [40] (fun i wr => ∃ k : Nat, k ≤ l.length ∧ i = .int .i64 k ∧ Hid ((l.take k).all (validT v n) = true ∧ Below w0.heap.size w0 wr)) (fun i _ => l.length - (intOf i).toNat)
    case atStart => exact ⟨0, Nat.zero_le _, rfl, by simp, Below.refl _ _⟩
    case round =>
      obtain ⟨k, hk, rfl, HX⟩ := hrel
      have HBW := Lib.hid (HBX.out.1.trans (HX.out.2.mono HBX.out.1.size))
      have HBR := Lib.hid ((HX.out.2.block _ (Array.getElem?_eq_some_iff.1 HBX.out.2).1).trans HBX.out.2)
      by_cases hlk : k < l.length
      rotate_left
      · obtain rfl : k = l.length := by omega
        have hall := HX.out.1
        rw [List.take_length] at hall
        have c0 := cell_blk HBR.out 0
        have HAL := Lib.hid hall
        clear hall
        go_wp2_with fail
        refine (CN.out wr).mono ?_
        rintro e w1 ⟨rfl, hb⟩
        have HB1 := Lib.hid (HBW.out.trans (hb.mono HBW.out.size))
        clear hb
        go_wp2_with fail
        go_ret
        exact ⟨by rw [HT.out, HAL.out, decide_eq_true (by omega : l.length ≤ 4)]; simp, HB1.out⟩
      obtain ⟨t, ht⟩ : ∃ t, l[k]? = some t := ⟨_, List.getElem?_eq_getElem hlk⟩
      obtain ⟨x, hx⟩ : ∃ x, xs'[k]? = some x := ⟨_, List.getElem?_eq_getElem (by rw [HV.out.1]; exact hlk)⟩
      have hv := HV.out.2.2.1 k x t hx ht
      obtain ⟨nm', A', cp', l', rfl, rfl⟩ := hv.form
      obtain ⟨b0, o0, rfl, hb0, hbl, hc⟩ := HV.out.2.1 (by rw [HV.out.1]; omega)
      have f0 := (HBW.out.cell (p := ⟨b0, o0 + k * 2, none⟩) hbl).trans (hc k _ hx 0 _ rfl)
      have f1 := (HBW.out.cell (p := ⟨b0, o0 + k * 2 + 1, none⟩) hbl).trans (hc k _ hx 1 _ rfl)
      have hTB := HV.out.2.2.2.2 _ (List.mem_of_getElem? ht)
      have HA1 := Lib.hid (all_take_snoc (validT v n) l k hlk)
      have HA2 := Lib.hid (all_no_at (validT v n) l k hlk)
      obtain ⟨_, hlt'⟩ := List.getElem?_eq_some_iff.1 ht
      rw [hlt'] at HA1 HA2
      have HB3 := Lib.hid (one_box wr (.cells #[.string (bs nm'), .slice A' l'.length cp'] 25))
      have CT := Lib.hid (fun (y : World) (hy : Below wr.heap.size wr y) => IH.out (by omega) y P (.mk nm' l') nm' A' cp' l' rfl (hv.keep (fun b' hp hb' => ⟨hp, ((HBW.out.trans (hy.mono HBW.out.size)).block b' hb')⟩) (Nat.le_trans HBW.out.size hy.size)) hTB (fun b' hp => Nat.lt_of_lt_of_le (HV.out.2.2.2.1 b' hp) (Nat.le_trans HBW.out.size hy.size)))
      clear hv hx hc ht HBR hTB hlt'
      generalize validT v n (.mk nm' l') = r at *
      cases r
      all_goals
        go_wp2_with fail
        generalize wr.alloc (.cells #[.string (bs nm'), .slice A' l'.length cp'] 25) = w3 at *
        refine (CT.out w3 HB3.out.1).mono ?_
        rintro e w4 ⟨rfl, hb⟩
        have HB4 := Lib.hid (HX.out.2.trans ((HB3.out.1.trans (hb.mono HB3.out.1.size)).mono HX.out.2.size))
        clear hb
        go_wp2_with fail
      · go_ret
        exact ⟨by rw [HT.out, HA2.out (by simp)]; simp, HBX.out.1.trans (HB4.out.mono HBX.out.1.size)⟩
      · go_roundw
        case rel => exact ⟨k + 1, by omega, by go_num, by rw [HA1.out, HX.out.1]; rfl, HB4.out⟩
        case measure => simp [intOf]; omega


end
/- The walks of printer.Terms and the reference's Terms. -/
section
open Go Go.RowKit Go.Shelf
set_option linter.unusedSimpArgs false

theorem join_snoc (sep : List UInt8) (xs : List (List UInt8)) (x : List UInt8) : Lib.join (xs ++ [x]) sep = if xs.isEmpty then x else Lib.join xs sep ++ sep ++ x := by
  cases xs with
  | nil => simp [Lib.join_one]
  | cons a r => rw [List.cons_append, Lib.join_cons, Lib.join_cons]; simp [Lib.joinTail]
theorem infoStr : (Tryz.prog.info? 9).map (fun i => (i.zero, i.size, i.bytes)) = some (some (.string ⟨#[]⟩), 1, 16) := by kernel_rfl
def strCells (l : List (List UInt8)) : List Value := l.map fun x => .string (bs x)
/-- what a slice of strings that the call appended to gives to strings.Join -/
theorem sjoin_any (sep : List UInt8) (w : World) (B : Nat) (v : Value) (xs : List (List UInt8)) (hown : w.ownsRow B 9 1 v xs.length (strCells xs)) (hn : xs.length ≤ 1000000000) (hm : (Lib.join xs sep).length ≤ 140737488355328) :
    Calls Tryz.prog 36 #[v, .string (bs sep)] w (OutB w (.string (bs (Lib.join xs sep)))) := by
  have hx : (xs.map bs).map (·.data.toList) = xs := by rw [List.map_map]; exact List.map_id'' (fun x => toList_bs x) xs
  cases xs with
  | nil =>
    obtain ⟨c, g, rfl⟩ : ∃ c g, v = .slice g 0 c := by
      rcases hown.2 with ⟨hv, _⟩ | ⟨g, cap, cur, hv, _⟩
      · exact ⟨_, _, hv⟩
      · exact ⟨_, _, hv⟩
    exact (strings_Join_none g c (bs sep) w).mono fun e w' h => ⟨h.1, by rw [h.2]; exact Below.refl _ _⟩
  | cons x r =>
    obtain ⟨g, cap, rfl, _, hlt⟩ := hown.form (by simp)
    have hcap : (x :: r).length ≤ cap := by
      rcases hown.2 with ⟨hv, _⟩ | ⟨g', cap', cur, hv, _, _, hc, _⟩
      · cases hv
      · injection hv with _ _ hc2
        omega
    have hc := hown.cells (g := g) rfl
    have := strings_Join g 0 cap ((x :: r).map bs) (bs sep) w (fun j y hy => by
      have h1 := hc j (.string y) (by unfold strCells; rw [List.getElem?_map] at hy ⊢; cases hz : (x :: r)[j]? with | none => rw [hz] at hy; simp at hy | some z => rw [hz] at hy; simp at hy ⊢; exact hy)
      rw [Nat.zero_add]
      have hadd : (⟨g, 0, none⟩ : Addr).add j = ⟨g, j, none⟩ := by unfold Addr.add; split <;> simp_all
      rwa [hadd] at h1) hlt (by simp at hn ⊢; omega) (by simpa using hcap) (by rw [hx, toList_bs]; exact hm)
    rw [hx, List.length_map, toList_bs] at this
    exact this
theorem own_keep {w w' : World} {base : Nat} {e : TypeId} {size : Nat} {v : Value} {n : Nat} {xs : List Value} (h : w.ownsRow base e size v n xs) (hb : Below w.heap.size w w') : w'.ownsRow base e size v n xs :=
  ⟨h.1, h.2.imp id fun ⟨g, cap, cur, hv, hbs, hg, r⟩ => ⟨g, cap, cur, hv, hbs, (hb.block g (Array.getElem?_eq_some_iff.1 hg).1).trans hg, r⟩⟩
/-- the texts of terms -/
def txs (l : List Tm) : List (List UInt8) := l.map textT
theorem txs_take {l : List Tm} {k : Nat} {t : Tm} (h : l[k]? = some t) : txs (l.take (k + 1)) = txs (l.take k) ++ [textT t] := by
  obtain ⟨h1, h2⟩ := List.getElem?_eq_some_iff.1 h
  unfold txs
  rw [List.take_succ_eq_append_getElem h1, h2, List.map_append]
  rfl

set_option maxHeartbeats 4000000 in
set_option maxRecDepth 100000 in
theorem terms_text (w : World) (P : Nat → Prop) (A : Option Addr) (ca : Nat) (l : List Tm) (hl : l.length ≤ 1000000000) (ha : SlV TmV 2 w P A l) (hP : ∀ b, P b → b < w.heap.size) (hw : ∀ t ∈ l, wT t ≤ 400000000) (hm : (Lib.join (txs l) [44, 32]).length ≤ 1000000000) :
    Calls Tryz.prog 34 #[.slice A l.length ca] w (OutB w (.string (bs (Lib.join (txs l) [44, 32])))) := by
  obtain ⟨i0, hi0, hz0, hz1, hz2⟩ := info_parts infoStr
  obtain ⟨xs', hxl, harr, hel⟩ := ha
  have HV := Lib.hid (And.intro hxl (And.intro harr (And.intro hel (And.intro hP hw))))
  have HM := Lib.hid hm
  have HI0 := Lib.hid hi0
  have HZ0 := Lib.hid hz0
  have HZ1 := Lib.hid hz1
  have HZ2 := Lib.hid hz2
  clear hxl harr hel hP hw hm hi0 hz0 hz1 hz2
  go_enter Tryz.func34, Tryz.ntmps34
  go_wp2_with fail
  go_loopw [3, 8] (fun v i wr => ∃ k : Nat, k ≤ l.length ∧ i = .int .i64 k ∧ Hid (wr.ownsRow w.heap.size 9 1 v (txs (l.take k)).length (strCells (txs (l.take k))) ∧ Below w.heap.size w wr)) (fun _ i _ => l.length - (intOf i).toNat)
  case atStart => exact ⟨0, Nat.zero_le _, rfl, World.ownsRow_nil _ _ _ _, Below.refl _ _⟩
  case round =>
    obtain ⟨k, hk, rfl, HI⟩ := hrel
    by_cases hlk : k < l.length
    rotate_left
    focus
      obtain rfl : k = l.length := by omega
      rw [List.take_length] at HI
      have hlen : (txs l).length ≤ 1000000000 := by unfold txs; rw [List.length_map]; exact hl
      have HJ := Lib.hid (sjoin_any [44, 32] wr w.heap.size _ (txs l) HI.out.1 hlen (Nat.le_trans HM.out (by omega)))
      clear hlen
      go_wp2_with fail
      refine HJ.out.mono ?_
      rintro e9 w9 ⟨rfl, hb⟩
      have HE := Lib.hid (HI.out.2.trans (hb.mono HI.out.2.size))
      clear hb HJ
      go_wp2_with fail
      go_ret
      exact ⟨rfl, HE.out⟩
    obtain ⟨t, ht⟩ : ∃ t, l[k]? = some t := ⟨_, List.getElem?_eq_getElem hlk⟩
    obtain ⟨x, hx⟩ : ∃ x, xs'[k]? = some x := ⟨_, List.getElem?_eq_getElem (by rw [HV.out.1]; exact hlk)⟩
    have hv := HV.out.2.2.1 k x t hx ht
    obtain ⟨nm', A', cp', l', rfl, rfl⟩ := hv.form
    obtain ⟨b0, o0, rfl, hb0, hbl, hc⟩ := HV.out.2.1 (by rw [HV.out.1]; omega)
    have f0 := (HI.out.2.cell (p := ⟨b0, o0 + k * 2, none⟩) hbl).trans (hc k _ hx 0 _ rfl)
    have f1 := (HI.out.2.cell (p := ⟨b0, o0 + k * 2 + 1, none⟩) hbl).trans (hc k _ hx 1 _ rfl)
    have HST := Lib.hid (txs_take ht)
    have hwt := HV.out.2.2.2.2 _ (List.mem_of_getElem? ht)
    have HB3 := Lib.hid (one_box wr (.cells #[.string (bs nm'), .slice A' l'.length cp'] 25))
    have CT := Lib.hid (fun (y : World) (hy : Below w.heap.size w y) => text_any y P (.mk nm' l') nm' A' cp' l' rfl (hv.keep (fun b' hp hb' => ⟨hp, hy.block b' hb'⟩) hy.size) (fun b' hp => Nat.lt_of_lt_of_le (HV.out.2.2.2.1 b' hp) hy.size) hwt)
    have hlen : (txs (l.take k)).length ≤ 1000000000 := by
      have h2 := List.length_take_le k l
      unfold txs
      rw [List.length_map]
      omega
    have hsz : w.heap.size ≤ wr.heap.size := HI.out.2.size
    have HO1 := Lib.hid (HI.out.1.alloc (.cells #[.string (bs nm'), .slice A' l'.length cp'] 25))
    have HB1 := Lib.hid (HI.out.2.trans (HB3.out.1.mono hsz))
    clear hv hx hc ht hwt HI
    generalize hn : (txs (l.take k)).length = n at *
    have HN := Lib.hid hn
    clear hn
    go_wp2_with fail
    generalize wr.alloc (.cells #[.string (bs nm'), .slice A' l'.length cp'] 25) = w3 at *
    refine (CT.out w3 HB1.out).mono ?_
    rintro e w4 ⟨rfl, hb⟩
    have HO2 := Lib.hid ((own_keep HO1.out hb).alloc (.cells #[.string (bs (textT (.mk nm' l')))] 9))
    have HB4 := Lib.hid (HB1.out.trans (hb.mono HB1.out.size))
    have hsz4 : w.heap.size ≤ w4.heap.size := HB4.out.size
    clear hb HO1 HB1
    generalize hbt : bs (textT (.mk nm' l')) = bt at *
    have HBT := Lib.hid hbt
    clear hbt
    go_wp2_with (at_builtin; refine wpList_append_own _ rfl _ _ 44 rfl w.heap.size 9 i0 (.string ⟨#[]⟩) 1 16 Tryz.underlying44 HI0.out HZ0.out HZ1.out HZ2.out rfl (by decide) _ _ _ rfl HO2.out ⟨w4.heap.size, 0, none⟩ 1 1 [.string bt] rfl rfl ?c1 ?c2 ?c3 ?c4 ?c5 ?_)
    try (case c1 =>
      intro j u hj
      match j, hj with
      | 0, hj => simp at hj; subst hj; simp [Addr.add])
    case c2 => first | rfl | (intro u hu; simp at hu; subst hu; rfl)
    case c3 => unfold maxLen; omega
    case c4 => omega
    case c5 => first | omega | (simp; omega)
    intro v' w1 hown' hgrow _
    have HO5 := Lib.hid hown'
    have HB5 := Lib.hid ((HB4.out.alloc hsz4 (.cells #[.string bt] 9)).grown hgrow (by simp; omega) (fun k hk => (HO2.out.lt k hk).1))
    clear hown' hgrow
    go_wp2_with fail
    go_roundw
    case rel =>
      refine ⟨k + 1, by omega, by go_num, ?_, HB5.out⟩
      rw [HST.out, List.length_append, HN.out]
      unfold strCells at *
      rw [List.map_append, List.map_cons, List.map_nil, HBT.out]
      exact HO5.out
    case measure => simp [intOf]; omega

set_option maxHeartbeats 4000000 in
set_option maxRecDepth 100000 in
theorem rterms_text (w : World) (P : Nat → Prop) (A : Option Addr) (ca : Nat) (l : List Tm) (hl : l.length ≤ 1000000000) (ha : SlV TmV 2 w P A l) (hP : ∀ b, P b → b < w.heap.size) (hw : ∀ t ∈ l, wT t ≤ 400000000) (hm : ∀ k, (Lib.join (txs (l.take k)) [44, 32]).length ≤ 100000000) :
    Calls Tryz.prog 51 #[.slice A l.length ca] w (OutB w (.string (bs (Lib.join (txs l) [44, 32])))) := by
  obtain ⟨xs', hxl, harr, hel⟩ := ha
  have HV := Lib.hid (And.intro hxl (And.intro harr (And.intro hel (And.intro hP hw))))
  have HM := Lib.hid hm
  clear hxl harr hel hP hw hm
  go_enter Tryz.func51, Tryz.ntmps51
  go_wp2_with fail
  go_loopw [3, 4] (fun s i wr => ∃ k : Nat, k ≤ l.length ∧ i = .int .i64 k ∧ s = .string (bs (Lib.join (txs (l.take k)) [44, 32])) ∧ Hid (Below w.heap.size w wr)) (fun _ i _ => l.length - (intOf i).toNat)
  case atStart => exact ⟨0, Nat.zero_le _, rfl, rfl, Below.refl _ _⟩
  case round =>
    obtain ⟨k, hk, rfl, rfl, HI⟩ := hrel
    by_cases hlk : k < l.length
    rotate_left
    focus
      obtain rfl : k = l.length := by omega
      rw [List.take_length]
      go_wp2_with fail
      go_ret
      exact ⟨rfl, HI.out⟩
    obtain ⟨t, ht⟩ : ∃ t, l[k]? = some t := ⟨_, List.getElem?_eq_getElem hlk⟩
    obtain ⟨x, hx⟩ : ∃ x, xs'[k]? = some x := ⟨_, List.getElem?_eq_getElem (by rw [HV.out.1]; exact hlk)⟩
    have hv := HV.out.2.2.1 k x t hx ht
    obtain ⟨nm', A', cp', l', rfl, rfl⟩ := hv.form
    obtain ⟨b0, o0, rfl, hb0, hbl, hc⟩ := HV.out.2.1 (by rw [HV.out.1]; omega)
    have f0 := (HI.out.cell (p := ⟨b0, o0 + k * 2, none⟩) hbl).trans (hc k _ hx 0 _ rfl)
    have f1 := (HI.out.cell (p := ⟨b0, o0 + k * 2 + 1, none⟩) hbl).trans (hc k _ hx 1 _ rfl)
    have hst : Lib.join (txs (l.take (k + 1))) [44, 32] = if k = 0 then textT (.mk nm' l') else Lib.join (txs (l.take k)) [44, 32] ++ [44, 32] ++ textT (.mk nm' l') := by
      rw [txs_take ht, join_snoc]
      have he : (txs (l.take k)).isEmpty = decide (k = 0) := by
        unfold txs
        rw [List.isEmpty_map]
        cases k with
        | zero => rfl
        | succ k =>
          cases l with
          | nil => simp at hlk
          | cons a l => rfl
      rw [he]
      simp
    have hwt := HV.out.2.2.2.2 _ (List.mem_of_getElem? ht)
    have htl := textT_len (.mk nm' l')
    have hmk := HM.out k
    have CT := Lib.hid (fun (y : World) (hy : Below w.heap.size w y) => rtext_any _ (.mk nm' l') y P nm' A' cp' l' (Nat.le_refl _) rfl (hv.keep (fun b' hp hb' => ⟨hp, hy.block b' hb'⟩) hy.size) (fun b' hp => Nat.lt_of_lt_of_le (HV.out.2.2.2.1 b' hp) hy.size) hwt)
    clear hv hx hc ht
    by_cases hk0 : k = 0
    focus
      have d1 : decide ((0 : Int) < (k : Int)) = false := by simp; omega
      have d2 : ¬ 0 < k := by omega
      rw [if_pos hk0] at hst
      have HST := Lib.hid hst
      have hadd : ∀ y : World, (Op.stringOp .add (bs (Lib.join (txs (l.take k)) [44, 32])) (bs (textT (.mk nm' l')))).run Tryz.prog y = .ok (.string (bs (Lib.join (txs (l.take (k + 1))) [44, 32]))) y := fun y => by
        have := str_add_l (P := Tryz.prog) (w := y) (Lib.join (txs (l.take k)) [44, 32]) (textT (.mk nm' l')) (by omega)
        rw [HST.out]
        rw [hk0, List.take_zero] at this ⊢
        exact this
      clear hk0 hst hmk htl hwt
      generalize hq : bs (Lib.join (txs (l.take (k + 1))) [44, 32]) = s2 at *
      have HQ := Lib.hid hq
      clear hq
      generalize bs (Lib.join (txs (l.take k)) [44, 32]) = sk at *
      generalize bs (textT (.mk nm' l')) = st at *
      go_wp2_with fail
      refine (CT.out _ HI.out).mono ?_
      rintro e w5 ⟨rfl, hb⟩
      have HB5 := Lib.hid (HI.out.trans (hb.mono HI.out.size))
      clear hb
      go_wp2_with fail
      go_roundw
      case rel => exact ⟨k + 1, by omega, by go_num, by rw [HQ.out], HB5.out⟩
      case measure => simp [intOf]; omega
    have d1 : decide ((0 : Int) < (k : Int)) = true := by simp; omega
    have d2 : 0 < k := by omega
    rw [if_neg hk0] at hst
    have HST := Lib.hid hst
    have hadd1 : ∀ y : World, (Op.stringOp .add (bs (Lib.join (txs (l.take k)) [44, 32])) ⟨#[44, 32]⟩).run Tryz.prog y = .ok (.string (bs (Lib.join (txs (l.take k)) [44, 32] ++ [44, 32]))) y := fun y => str_add_l (Lib.join (txs (l.take k)) [44, 32]) [44, 32] (by simp; omega)
    have hadd : ∀ y : World, (Op.stringOp .add (bs (Lib.join (txs (l.take k)) [44, 32] ++ [44, 32])) (bs (textT (.mk nm' l')))).run Tryz.prog y = .ok (.string (bs (Lib.join (txs (l.take (k + 1))) [44, 32]))) y := fun y => by
      have := str_add_l (P := Tryz.prog) (w := y) (Lib.join (txs (l.take k)) [44, 32] ++ [44, 32]) (textT (.mk nm' l')) (by simp; omega)
      rw [HST.out]
      exact this
    clear hk0 hst hmk htl hwt
    generalize hq : bs (Lib.join (txs (l.take (k + 1))) [44, 32]) = s2 at *
    have HQ := Lib.hid hq
    clear hq
    generalize bs (Lib.join (txs (l.take k)) [44, 32] ++ [44, 32]) = s1 at *
    generalize bs (Lib.join (txs (l.take k)) [44, 32]) = sk at *
    generalize bs (textT (.mk nm' l')) = st at *
    go_wp2_with fail
    refine (CT.out _ HI.out).mono ?_
    rintro e w5 ⟨rfl, hb⟩
    have HB5 := Lib.hid (HI.out.trans (hb.mono HI.out.size))
    clear hb
    go_wp2_with fail
    go_roundw
    case rel => exact ⟨k + 1, by omega, by go_num, by rw [HQ.out], HB5.out⟩
    case measure => simp [intOf]; omega

end
end Go.Proofs.YtmplpbdldcokjaaGreatDoor
