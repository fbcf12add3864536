/- Merged texts: The walks of Literal, of the printer and of the reference. The walks of Rule, of the printer and of the reference. -/
import Derived.Test.YthkbnjojkeeffaaDoorGe
namespace Go.Proofs.YthkbnjojkeeffaaDoor
/- The walks of Literal, of the printer and of the reference. -/
section
open Go Go.RowKit Go.Shelf
set_option linter.unusedSimpArgs false

/-- the text of a literal -/
def litT (l : Li) : List UInt8 := (if l.neg then [110, 111, 116, 32] else []) ++ textT l.atom
theorem litT_len (l : Li) : (litT l).length ≤ 2 * wT l.atom + 4 := by
  have := textT_len l.atom
  unfold litT
  cases l.neg <;> simp <;> omega
set_option maxHeartbeats 4000000 in
set_option maxRecDepth 100000 in
theorem litw_any (w : World) (P : Nat → Prop) (neg : Bool) (nm : List UInt8) (A : Option Addr) (cp : Nat) (l : List Tm) (hv : TmV w P [.string (bs nm), .slice A l.length cp] (.mk nm l)) (hP : ∀ b, P b → b < w.heap.size) (hw : wT (.mk nm l) ≤ 400000000) :
    Calls Tryd.prog 13 #[.agg #[.bool neg, .string (bs nm), .slice A l.length cp]] w (OutB w (.string (bs (litT ⟨neg, .mk nm l⟩)))) := by
  have HBX := Lib.hid (one_box w (.cells #[.bool neg, .string (bs nm), .slice A l.length cp] 32))
  have CT := Lib.hid (text_any (w.alloc (.cells #[.bool neg, .string (bs nm), .slice A l.length cp] 32)) P (.mk nm l) nm A cp l rfl (hv.keep (fun b' hp hb' => ⟨hp, HBX.out.1.block b' hb'⟩) HBX.out.1.size) (fun b' hp => Nat.lt_of_lt_of_le (hP b' hp) HBX.out.1.size) hw)
  have htl := textT_len (.mk nm l)
  have hadd : ∀ y : World, (Op.stringOp .add ⟨#[110, 111, 116, 32]⟩ (bs (textT (.mk nm l)))).run Tryd.prog y = .ok (.string (bs ([110, 111, 116, 32] ++ textT (.mk nm l)))) y := fun y => str_add_l [110, 111, 116, 32] (textT (.mk nm l)) (by simp; omega)
  clear hv hP hw htl
  unfold litT
  generalize textT (.mk nm l) = tt at *
  cases neg
  · clear hadd
    go_enter Tryd.func13, Tryd.ntmps13
    go_wp2_with fail
    refine CT.out.mono ?_
    rintro e w1 ⟨rfl, hb⟩
    have HB := Lib.hid (HBX.out.1.trans (hb.mono HBX.out.1.size))
    clear hb
    go_wp2_with fail
    go_ret
    exact ⟨rfl, HB.out⟩
  · go_enter Tryd.func13, Tryd.ntmps13
    go_wp2_with fail
    refine CT.out.mono ?_
    rintro e w1 ⟨rfl, hb⟩
    have HB := Lib.hid (HBX.out.1.trans (hb.mono HBX.out.1.size))
    clear hb
    go_wp2_with fail
    go_ret
    exact ⟨rfl, HB.out⟩
set_option maxHeartbeats 4000000 in
set_option maxRecDepth 100000 in
theorem rlitw_any (w : World) (P : Nat → Prop) (neg : Bool) (nm : List UInt8) (A : Option Addr) (cp : Nat) (l : List Tm) (hv : TmV w P [.string (bs nm), .slice A l.length cp] (.mk nm l)) (hP : ∀ b, P b → b < w.heap.size) (hw : wT (.mk nm l) ≤ 400000000) :
    Calls Tryd.prog 14 #[.agg #[.bool neg, .string (bs nm), .slice A l.length cp]] w (OutB w (.string (bs (litT ⟨neg, .mk nm l⟩)))) := by
  have HBX := Lib.hid (one_box w (.cells #[.bool neg, .string (bs nm), .slice A l.length cp] 32))
  have CT := Lib.hid (rtext_any _ (.mk nm l) (w.alloc (.cells #[.bool neg, .string (bs nm), .slice A l.length cp] 32)) P nm A cp l (Nat.le_refl _) rfl (hv.keep (fun b' hp hb' => ⟨hp, HBX.out.1.block b' hb'⟩) HBX.out.1.size) (fun b' hp => Nat.lt_of_lt_of_le (hP b' hp) HBX.out.1.size) hw)
  have htl := textT_len (.mk nm l)
  have hadd : ∀ y : World, (Op.stringOp .add ⟨#[110, 111, 116, 32]⟩ (bs (textT (.mk nm l)))).run Tryd.prog y = .ok (.string (bs ([110, 111, 116, 32] ++ textT (.mk nm l)))) y := fun y => str_add_l [110, 111, 116, 32] (textT (.mk nm l)) (by simp; omega)
  clear hv hP hw htl
  unfold litT
  generalize textT (.mk nm l) = tt at *
  cases neg
  · clear hadd
    go_enter Tryd.func14, Tryd.ntmps14
    go_wp2_with fail
    refine CT.out.mono ?_
    rintro e w1 ⟨rfl, hb⟩
    have HB := Lib.hid (HBX.out.1.trans (hb.mono HBX.out.1.size))
    clear hb
    go_wp2_with fail
    go_ret
    exact ⟨rfl, HB.out⟩
  · go_enter Tryd.func14, Tryd.ntmps14
    go_wp2_with fail
    refine CT.out.mono ?_
    rintro e w1 ⟨rfl, hb⟩
    have HB := Lib.hid (HBX.out.1.trans (hb.mono HBX.out.1.size))
    clear hb
    go_wp2_with fail
    go_ret
    exact ⟨rfl, HB.out⟩

end
/- The walks of Rule, of the printer and of the reference. -/
section
open Go Go.RowKit Go.Shelf
set_option linter.unusedSimpArgs false

theorem own_form {w : World} {B : Nat} {e : TypeId} {s n : Nat} {v : Value} {xs : List Value} (h : w.ownsRow B e s v n xs) : ∃ A c, v = .slice A n c := by
  rcases h.2 with ⟨hv, h0⟩ | ⟨g, cap, cur, hv, _⟩
  · first | exact ⟨_, _, hv⟩ | (subst h0; exact ⟨_, _, hv⟩)
  · exact ⟨_, _, hv⟩

/-- the texts of literals -/
def ltxs (l : List Li) : List (List UInt8) := l.map litT
theorem ltxs_take {l : List Li} {k : Nat} {t : Li} (h : l[k]? = some t) : ltxs (l.take (k + 1)) = ltxs (l.take k) ++ [litT t] := by
  obtain ⟨h1, h2⟩ := List.getElem?_eq_some_iff.1 h
  unfold ltxs
  rw [List.take_succ_eq_append_getElem h1, h2, List.map_append]
  rfl
/-- the texts of literals, as a body -/
def bodyT (l : List Li) : List UInt8 := Lib.join (ltxs l) [32, 97, 110, 100, 32]
/-- the body's part of a rule's text -/
def bodyS (l : List Li) : List UInt8 := if l.isEmpty then [] else [32, 105, 102, 32] ++ bodyT l
/-- the text of a rule -/
def ruleT (r : Ru) : List UInt8 := textT r.head ++ bodyS r.body ++ [46]
theorem bodyS_take {l : List Li} {k : Nat} {t : Li} (h : l[k]? = some t) : bodyS (l.take (k + 1)) = if k = 0 then [32, 105, 102, 32] ++ litT t else bodyS (l.take k) ++ ([32, 97, 110, 100, 32] ++ litT t) := by
  cases l with
  | nil => simp at h
  | cons a r =>
    cases k with
    | zero =>
      simp at h
      subst h
      simp [bodyS, bodyT, ltxs, Lib.join_one]
    | succ k =>
      have h2 := ltxs_take h
      unfold bodyS bodyT
      rw [h2, join_snoc]
      simp [ltxs]

set_option maxHeartbeats 8000000 in
set_option maxRecDepth 100000 in
theorem rulex_any (w : World) (P : Nat → Prop) (nm : List UInt8) (A : Option Addr) (cp : Nat) (l : List Tm) (A2 : Option Addr) (cp2 : Nat) (body : List Li) (hv : TmV w P [.string (bs nm), .slice A l.length cp] (.mk nm l)) (ha : SlV LiV 3 w P A2 body) (hP : ∀ b, P b → b < w.heap.size) (hwh : wT (.mk nm l) ≤ 100000000) (hl : body.length ≤ 1000000000) (hw : ∀ t ∈ body, wT t.atom ≤ 400000000) (hm : (bodyT body).length ≤ 500000000) :
    Calls Tryd.prog 15 #[.agg #[.string (bs nm), .slice A l.length cp, .slice A2 body.length cp2]] w (OutB w (.string (bs (ruleT ⟨.mk nm l, body⟩)))) := by
  obtain ⟨i0, hi0, hz0, hz1, hz2⟩ := info_parts infoStr
  obtain ⟨xs', hxl, harr, hel⟩ := ha
  have HV := Lib.hid (And.intro hxl (And.intro harr (And.intro hel (And.intro hP hw))))
  have HW := Lib.hid (And.intro hv (And.intro hwh hm))
  have HBX := Lib.hid (one_box w (.cells #[.string (bs nm), .slice A l.length cp, .slice A2 body.length cp2] 27))
  have HI0 := Lib.hid hi0
  have HZ0 := Lib.hid hz0
  have HZ1 := Lib.hid hz1
  have HZ2 := Lib.hid hz2
  clear hv hwh hxl harr hel hP hw hm hi0 hz0 hz1 hz2
  go_enter Tryd.func15, Tryd.ntmps15
  have c2 := cell_blk HBX.out.2 2
  go_wp2_with fail
  clear c2
  generalize w.alloc (.cells #[.string (bs nm), .slice A l.length cp, .slice A2 body.length cp2] 27) = w0 at *
  go_loopw [3, 10] (fun v i wr => ∃ k : Nat, k ≤ body.length ∧ i = .int .i64 k ∧ Hid (wr.ownsRow w0.heap.size 9 1 v (ltxs (body.take k)).length (strCells (ltxs (body.take k))) ∧ Below w0.heap.size w0 wr)) (fun _ i _ => body.length - (intOf i).toNat)
  case atStart => exact ⟨0, Nat.zero_le _, rfl, World.ownsRow_nil _ _ _ _, Below.refl _ _⟩
  case round =>
    obtain ⟨k, hk, rfl, HI⟩ := hrel
    have HB0 := Lib.hid (HBX.out.1.trans (HI.out.2.mono HBX.out.1.size))
    by_cases hlk : k < body.length
    rotate_left
    focus
      obtain rfl : k = body.length := by omega
      rw [List.take_length] at HI
      have hnl : (ltxs body).length = body.length := by unfold ltxs; rw [List.length_map]
      have HN := Lib.hid hnl
      obtain ⟨Av, cv, rfl⟩ := own_form HI.out.1
      have HX := Lib.hid ((HI.out.2.block _ (Array.getElem?_eq_some_iff.1 HBX.out.2).1).trans HBX.out.2)
      have d0 := cell_blk HX.out 0
      have d1 := cell_blk HX.out 1
      have CT := Lib.hid (text_any wr P (.mk nm l) nm A cp l rfl (HW.out.1.keep (fun b' hp hb' => ⟨hp, HB0.out.block b' hb'⟩) HB0.out.size) (fun b' hp => Nat.lt_of_lt_of_le (HV.out.2.2.2.1 b' hp) HB0.out.size) (Nat.le_trans HW.out.2.1 (by omega)))
      have htl := textT_len (.mk nm l)
      have hwt := HW.out.2.1
      have hmm := HW.out.2.2
      have HO := Lib.hid HI.out.1
      clear HI
      rw [hnl] at HO ⊢
      clear hnl
      by_cases hb0 : body.length = 0
      · have hru : ruleT ⟨.mk nm l, body⟩ = textT (.mk nm l) ++ [46] := by
          obtain rfl := List.length_eq_zero_iff.1 hb0
          simp [ruleT, bodyS]
        have HRU := Lib.hid (congrArg (fun z => Ending.returned (Value.string (bs z))) hru.symm)
        have hadd : ∀ y : World, (Op.stringOp .add (bs (textT (.mk nm l))) ⟨#[46]⟩).run Tryd.prog y = .ok (.string (bs (textT (.mk nm l) ++ [46]))) y := fun y => str_add_l (textT (.mk nm l)) [46] (by simp; omega)
        have e1 : decide ((0 : Int) < (body.length : Int)) = false := decide_eq_false (by omega)
        have e2 : ¬ 0 < body.length := by omega
        clear htl hwt hmm hru
        generalize bs (textT (.mk nm l) ++ [46]) = s1 at *
        generalize bs (textT (.mk nm l)) = s0 at *
        go_wp2_with fail
        refine CT.out.mono ?_
        rintro e w4 ⟨rfl, hb⟩
        have HB4 := Lib.hid (HB0.out.trans (hb.mono HB0.out.size))
        clear hb
        go_wp2_with fail
        go_ret
        exact ⟨HRU.out, HB4.out⟩
      · have hru : ruleT ⟨.mk nm l, body⟩ = textT (.mk nm l) ++ ([32, 105, 102, 32] ++ bodyT body) ++ [46] := by
          cases body with
          | nil => exact absurd rfl hb0
          | cons a r => simp [ruleT, bodyS]
        have HRU := Lib.hid (congrArg (fun z => Ending.returned (Value.string (bs z))) hru.symm)
        have hadd : ∀ y : World, (Op.stringOp .add (bs (textT (.mk nm l) ++ ([32, 105, 102, 32] ++ bodyT body))) ⟨#[46]⟩).run Tryd.prog y = .ok (.string (bs (textT (.mk nm l) ++ ([32, 105, 102, 32] ++ bodyT body) ++ [46]))) y := fun y => str_add_l _ [46] (by simp; omega)
        have hadd1 : ∀ y : World, (Op.stringOp .add ⟨#[32, 105, 102, 32]⟩ (bs (bodyT body))).run Tryd.prog y = .ok (.string (bs ([32, 105, 102, 32] ++ bodyT body))) y := fun y => str_add_l [32, 105, 102, 32] _ (by simp; omega)
        have hadd2 : ∀ y : World, (Op.stringOp .add (bs (textT (.mk nm l))) (bs ([32, 105, 102, 32] ++ bodyT body))).run Tryd.prog y = .ok (.string (bs (textT (.mk nm l) ++ ([32, 105, 102, 32] ++ bodyT body)))) y := fun y => str_add_l _ _ (by simp; omega)
        have e1 : decide ((0 : Int) < (body.length : Int)) = true := decide_eq_true (by omega)
        have e2 : 0 < body.length := by omega
        have CJ := Lib.hid (fun (y : World) (hb : Below wr.heap.size wr y) => sjoin_any [32, 97, 110, 100, 32] y w0.heap.size (.slice Av body.length cv) (ltxs body) (by rw [HN.out]; exact own_keep HO.out hb) (by rw [HN.out]; exact hl) (Nat.le_trans hmm (by omega)))
        have HBT : Hid (Lib.join (ltxs body) [32, 97, 110, 100, 32] = bodyT body) := rfl
        rw [HBT.out] at CJ
        clear htl hwt hmm hru
        generalize bs (textT (.mk nm l) ++ ([32, 105, 102, 32] ++ bodyT body) ++ [46]) = s4 at *
        generalize bs (textT (.mk nm l) ++ ([32, 105, 102, 32] ++ bodyT body)) = s3 at *
        generalize bs ([32, 105, 102, 32] ++ bodyT body) = s2 at *
        generalize bs (bodyT body) = s1 at *
        generalize bs (textT (.mk nm l)) = s0 at *
        go_wp2_with fail
        refine CT.out.mono ?_
        rintro e w4 ⟨rfl, hb⟩
        have HB4 := Lib.hid (HB0.out.trans (hb.mono HB0.out.size))
        have HBW := Lib.hid hb
        clear hb
        go_wp2_with fail
        refine (CJ.out _ HBW.out).mono ?_
        rintro e w5 ⟨rfl, hb⟩
        have HB5 := Lib.hid (HB4.out.trans (hb.mono HB4.out.size))
        clear hb
        go_wp2_with fail
        go_ret
        exact ⟨HRU.out, HB5.out⟩
    obtain ⟨t, ht⟩ : ∃ t, body[k]? = some t := ⟨_, List.getElem?_eq_getElem hlk⟩
    obtain ⟨x, hx⟩ : ∃ x, xs'[k]? = some x := ⟨_, List.getElem?_eq_getElem (by rw [HV.out.1]; exact hlk)⟩
    have hv := HV.out.2.2.1 k x t hx ht
    obtain ⟨ng, nm', A', cp', l', rfl, rfl⟩ := hv.form
    obtain ⟨y', hy', hvt⟩ := hv
    obtain rfl : [.string (bs nm'), .slice A' l'.length cp'] = y' := by injection hy'
    obtain ⟨b0, o0, rfl, hb0, hbl, hc⟩ := HV.out.2.1 (by rw [HV.out.1]; omega)
    have f0 := (HB0.out.cell (p := ⟨b0, o0 + k * 3, none⟩) hbl).trans (hc k _ hx 0 _ rfl)
    have f1 := (HB0.out.cell (p := ⟨b0, o0 + k * 3 + 1, none⟩) hbl).trans (hc k _ hx 1 _ rfl)
    have f2 := (HB0.out.cell (p := ⟨b0, o0 + k * 3 + 2, none⟩) hbl).trans (hc k _ hx 2 _ rfl)
    have HST := Lib.hid (ltxs_take ht)
    have hwt := HV.out.2.2.2.2 _ (List.mem_of_getElem? ht)
    have HB3 := Lib.hid (one_box wr (.cells #[.bool ng, .string (bs nm'), .slice A' l'.length cp'] 32))
    have CT := Lib.hid (fun (y : World) (hy : Below w.heap.size w y) => litw_any y P ng nm' A' cp' l' (hvt.keep (fun b' hp hb' => ⟨hp, hy.block b' hb'⟩) hy.size) (fun b' hp => Nat.lt_of_lt_of_le (HV.out.2.2.2.1 b' hp) hy.size) hwt)
    have hlen : (ltxs (body.take k)).length ≤ 1000000000 := by
      have h2 := List.length_take_le k body
      unfold ltxs
      rw [List.length_map]
      omega
    have hsz : w0.heap.size ≤ wr.heap.size := HI.out.2.size
    have HO1 := Lib.hid (HI.out.1.alloc (.cells #[.bool ng, .string (bs nm'), .slice A' l'.length cp'] 32))
    have HB1 := Lib.hid (HI.out.2.trans (HB3.out.1.mono hsz))
    clear hvt hy' hx hc ht hwt HI HB0
    generalize hn : (ltxs (body.take k)).length = n at *
    have HN := Lib.hid hn
    clear hn
    go_wp2_with fail
    generalize wr.alloc (.cells #[.bool ng, .string (bs nm'), .slice A' l'.length cp'] 32) = w3 at *
    refine (CT.out w3 (HBX.out.1.trans (HB1.out.mono HBX.out.1.size))).mono ?_
    rintro e w4 ⟨rfl, hb⟩
    have HO2 := Lib.hid ((own_keep HO1.out hb).alloc (.cells #[.string (bs (litT ⟨ng, .mk nm' l'⟩))] 9))
    have HB4 := Lib.hid (HB1.out.trans (hb.mono HB1.out.size))
    have hsz4 : w0.heap.size ≤ w4.heap.size := HB4.out.size
    clear hb HO1 HB1
    generalize hbt : bs (litT ⟨ng, .mk nm' l'⟩) = bt at *
    have HBT := Lib.hid hbt
    clear hbt
    go_wp2_with (at_builtin; refine wpList_append_own _ rfl _ _ 53 rfl w0.heap.size 9 i0 (.string ⟨#[]⟩) 1 16 Tryd.underlying53 HI0.out HZ0.out HZ1.out HZ2.out rfl (by decide) _ _ _ rfl HO2.out ⟨w4.heap.size, 0, none⟩ 1 1 [.string bt] rfl rfl ?c1 ?c2 ?c3 ?c4 ?c5 ?_)
    try (case c1 =>
      intro j u hj
      match j, hj with
      | 0, hj => simp at hj; subst hj; simp [Addr.add])
    case c2 => first | rfl | (intro u hu; simp at hu; subst hu; rfl)
    case c3 => unfold maxLen; omega
    case c4 => omega
    case c5 => first | omega | (simp; omega)
    intro v' w1 hown' hgrow _
    have HO5 := Lib.hid hown'
    have HB5 := Lib.hid ((HB4.out.alloc hsz4 (.cells #[.string bt] 9)).grown hgrow (by simp; omega) (fun k hk => (HO2.out.lt k hk).1))
    clear hown' hgrow
    go_wp2_with fail
    go_roundw
    case rel =>
      refine ⟨k + 1, by omega, by go_num, ?_, HB5.out⟩
      rw [HST.out, List.length_append, HN.out]
      unfold strCells at *
      rw [List.map_append, List.map_cons, List.map_nil, HBT.out]
      exact HO5.out
    case measure => simp [intOf]; omega

set_option maxHeartbeats 8000000 in
set_option maxRecDepth 100000 in
theorem rrulex_any (w : World) (P : Nat → Prop) (nm : List UInt8) (A : Option Addr) (cp : Nat) (l : List Tm) (A2 : Option Addr) (cp2 : Nat) (body : List Li) (hv : TmV w P [.string (bs nm), .slice A l.length cp] (.mk nm l)) (ha : SlV LiV 3 w P A2 body) (hP : ∀ b, P b → b < w.heap.size) (hwh : wT (.mk nm l) ≤ 100000000) (hl : body.length ≤ 1000000000) (hw : ∀ t ∈ body, wT t.atom ≤ 100000000) (hm : ∀ k, (bodyT (body.take k)).length ≤ 100000000) :
    Calls Tryd.prog 16 #[.agg #[.string (bs nm), .slice A l.length cp, .slice A2 body.length cp2]] w (OutB w (.string (bs (ruleT ⟨.mk nm l, body⟩)))) := by
  obtain ⟨xs', hxl, harr, hel⟩ := ha
  have HV := Lib.hid (And.intro hxl (And.intro harr (And.intro hel (And.intro hP hw))))
  have HBX := Lib.hid (one_box w (.cells #[.string (bs nm), .slice A l.length cp, .slice A2 body.length cp2] 27))
  have CT := Lib.hid (rtext_any _ (.mk nm l) (w.alloc (.cells #[.string (bs nm), .slice A l.length cp, .slice A2 body.length cp2] 27)) P nm A cp l (Nat.le_refl _) rfl (hv.keep (fun b' hp hb' => ⟨hp, HBX.out.1.block b' hb'⟩) HBX.out.1.size) (fun b' hp => Nat.lt_of_lt_of_le (hP b' hp) HBX.out.1.size) (Nat.le_trans hwh (by omega)))
  have htl := textT_len (.mk nm l)
  have hth : (textT (.mk nm l)).length ≤ 200000000 := by omega
  have HM := Lib.hid (And.intro hth hm)
  clear hv hwh hxl harr hel hP hw hm htl hth
  go_enter Tryd.func16, Tryd.ntmps16
  have c0 := cell_blk HBX.out.2 0
  have c1 := cell_blk HBX.out.2 1
  go_wp2_with fail
  clear c0 c1
  generalize w.alloc (.cells #[.string (bs nm), .slice A l.length cp, .slice A2 body.length cp2] 27) = w0 at *
  refine CT.out.mono ?_
  rintro e w1 ⟨rfl, hb⟩
  have HB1 := Lib.hid (HBX.out.1.trans (hb.mono HBX.out.1.size))
  have HX1 := Lib.hid ((hb.block _ (Array.getElem?_eq_some_iff.1 HBX.out.2).1).trans HBX.out.2)
  clear hb CT HBX
  go_wp2_with fail
  have HQ0 : Hid (bs (textT (.mk nm l)) = bs (textT (.mk nm l) ++ bodyS (body.take 0))) := by
    show _ = _
    simp [bodyS]
  go_loopw [3, 4] (fun s i wr => ∃ k : Nat, k ≤ body.length ∧ i = .int .i64 k ∧ s = .string (bs (textT (.mk nm l) ++ bodyS (body.take k))) ∧ Hid (Below w1.heap.size w1 wr)) (fun _ i _ => body.length - (intOf i).toNat)
  case atStart => exact ⟨0, Nat.zero_le _, rfl, by rw [HQ0.out], Below.refl _ _⟩
  case round =>
    obtain ⟨k, hk, rfl, rfl, HI⟩ := hrel
    have HB0 := Lib.hid (HB1.out.trans (HI.out.mono HB1.out.size))
    have HX := Lib.hid ((HI.out.block _ (Array.getElem?_eq_some_iff.1 HX1.out).1).trans HX1.out)
    have c2 := cell_blk HX.out 2
    have hlb : (bodyS (body.take k)).length ≤ 100000004 := by
      have := HM.out.2 k
      unfold bodyS
      split <;> simp <;> omega
    have hlt := HM.out.1
    by_cases hlk : k < body.length
    rotate_left
    focus
      obtain rfl : k = body.length := by omega
      have HRU := Lib.hid (congrArg (fun z => Ending.returned (Value.string (bs z))) (show textT (.mk nm l) ++ bodyS body ++ [46] = ruleT ⟨.mk nm l, body⟩ from rfl))
      rw [List.take_length] at hlb ⊢
      have hadd : ∀ y : World, (Op.stringOp .add (bs (textT (.mk nm l) ++ bodyS body)) ⟨#[46]⟩).run Tryd.prog y = .ok (.string (bs (textT (.mk nm l) ++ bodyS body ++ [46]))) y := fun y => str_add_l _ [46] (by simp; omega)
      clear hlb hlt
      generalize bs (textT (.mk nm l) ++ bodyS body ++ [46]) = s1 at *
      generalize bs (textT (.mk nm l) ++ bodyS body) = s0 at *
      go_wp2_with fail
      go_ret
      exact ⟨HRU.out, HB0.out⟩
    obtain ⟨t, ht⟩ : ∃ t, body[k]? = some t := ⟨_, List.getElem?_eq_getElem hlk⟩
    obtain ⟨x, hx⟩ : ∃ x, xs'[k]? = some x := ⟨_, List.getElem?_eq_getElem (by rw [HV.out.1]; exact hlk)⟩
    have hv := HV.out.2.2.1 k x t hx ht
    obtain ⟨ng, nm', A', cp', l', rfl, rfl⟩ := hv.form
    obtain ⟨y', hy', hvt⟩ := hv
    obtain rfl : [.string (bs nm'), .slice A' l'.length cp'] = y' := by injection hy'
    obtain ⟨b0, o0, rfl, hb0, hbl, hc⟩ := HV.out.2.1 (by rw [HV.out.1]; omega)
    have f0 := (HB0.out.cell (p := ⟨b0, o0 + k * 3, none⟩) hbl).trans (hc k _ hx 0 _ rfl)
    have f1 := (HB0.out.cell (p := ⟨b0, o0 + k * 3 + 1, none⟩) hbl).trans (hc k _ hx 1 _ rfl)
    have f2 := (HB0.out.cell (p := ⟨b0, o0 + k * 3 + 2, none⟩) hbl).trans (hc k _ hx 2 _ rfl)
    have hwt := HV.out.2.2.2.2 _ (List.mem_of_getElem? ht)
    have htl := litT_len ⟨ng, .mk nm' l'⟩
    have hst := bodyS_take ht
    have CT := Lib.hid (fun (y : World) (hy : Below w.heap.size w y) => rlitw_any y P ng nm' A' cp' l' (hvt.keep (fun b' hp hb' => ⟨hp, hy.block b' hb'⟩) hy.size) (fun b' hp => Nat.lt_of_lt_of_le (HV.out.2.2.2.1 b' hp) hy.size) (Nat.le_trans hwt (by omega)))
    have hwt' : wT (.mk nm' l') ≤ 100000000 := hwt
    have htl' : (litT ⟨ng, .mk nm' l'⟩).length ≤ 200000004 := Nat.le_trans htl (by show 2 * wT (.mk nm' l') + 4 ≤ _; omega)
    clear hvt hy' hx hc ht hwt HB0 HX htl hwt'
    by_cases hk0 : k = 0
    focus
      subst hk0
      simp only [Nat.zero_mul, Nat.add_zero] at f0 f1 f2
      rw [if_pos rfl] at hst
      have HST := Lib.hid hst
      have hs0 : textT (.mk nm l) ++ bodyS (body.take 0) = textT (.mk nm l) := by simp [bodyS]
      rw [hs0]
      have hadd1 : ∀ y : World, (Op.stringOp .add (bs (textT (.mk nm l))) ⟨#[32, 105, 102, 32]⟩).run Tryd.prog y = .ok (.string (bs (textT (.mk nm l) ++ [32, 105, 102, 32]))) y := fun y => str_add_l _ [32, 105, 102, 32] (by simp; omega)
      have hadd : ∀ y : World, (Op.stringOp .add (bs (textT (.mk nm l) ++ [32, 105, 102, 32])) (bs (litT ⟨ng, .mk nm' l'⟩))).run Tryd.prog y = .ok (.string (bs (textT (.mk nm l) ++ bodyS (body.take (0 + 1))))) y := fun y => by
        have := str_add_l (P := Tryd.prog) (w := y) (textT (.mk nm l) ++ [32, 105, 102, 32]) (litT ⟨ng, .mk nm' l'⟩) (by simp; omega)
        rw [HST.out, ← List.append_assoc]
        exact this
      clear hst htl' hlb hlt hs0
      generalize hq : bs (textT (.mk nm l) ++ bodyS (body.take (0 + 1))) = s2 at *
      have HQ := Lib.hid hq
      clear hq
      generalize bs (textT (.mk nm l) ++ [32, 105, 102, 32]) = s1 at *
      generalize bs (textT (.mk nm l)) = s0 at *
      generalize bs (litT ⟨ng, .mk nm' l'⟩) = st at *
      go_wp2_with fail
      refine (CT.out _ (HB1.out.trans (HI.out.mono HB1.out.size))).mono ?_
      rintro e w5 ⟨rfl, hb⟩
      have HB5 := Lib.hid (HI.out.trans (hb.mono HI.out.size))
      clear hb
      go_wp2_with fail
      go_roundw
      case rel => exact ⟨0 + 1, by omega, by go_num, by rw [HQ.out], HB5.out⟩
      case measure => simp [intOf]; omega
    rw [if_neg hk0] at hst
    have HST := Lib.hid hst
    have e1 : decide ((k : Int) = (0 : Int)) = false := decide_eq_false (by omega)
    have hadd1 : ∀ y : World, (Op.stringOp .add (bs (textT (.mk nm l) ++ bodyS (body.take k))) ⟨#[32, 97, 110, 100, 32]⟩).run Tryd.prog y = .ok (.string (bs (textT (.mk nm l) ++ bodyS (body.take k) ++ [32, 97, 110, 100, 32]))) y := fun y => str_add_l _ [32, 97, 110, 100, 32] (by simp; omega)
    have hadd : ∀ y : World, (Op.stringOp .add (bs (textT (.mk nm l) ++ bodyS (body.take k) ++ [32, 97, 110, 100, 32])) (bs (litT ⟨ng, .mk nm' l'⟩))).run Tryd.prog y = .ok (.string (bs (textT (.mk nm l) ++ bodyS (body.take (k + 1))))) y := fun y => by
      have := str_add_l (P := Tryd.prog) (w := y) (textT (.mk nm l) ++ bodyS (body.take k) ++ [32, 97, 110, 100, 32]) (litT ⟨ng, .mk nm' l'⟩) (by simp; omega)
      rw [HST.out, ← List.append_assoc, ← List.append_assoc]
      exact this
    clear hst htl' hlb hlt
    generalize hq : bs (textT (.mk nm l) ++ bodyS (body.take (k + 1))) = s2 at *
    have HQ := Lib.hid hq
    clear hq
    generalize bs (textT (.mk nm l) ++ bodyS (body.take k) ++ [32, 97, 110, 100, 32]) = s1 at *
    generalize bs (textT (.mk nm l) ++ bodyS (body.take k)) = s0 at *
    generalize bs (litT ⟨ng, .mk nm' l'⟩) = st at *
    go_wp2_with fail
    refine (CT.out _ (HB1.out.trans (HI.out.mono HB1.out.size))).mono ?_
    rintro e w5 ⟨rfl, hb⟩
    have HB5 := Lib.hid (HI.out.trans (hb.mono HI.out.size))
    clear hb
    go_wp2_with fail
    go_roundw
    case rel => exact ⟨k + 1, by omega, by go_num, by rw [HQ.out], HB5.out⟩
    case measure => simp [intOf]; omega

end
end Go.Proofs.YthkbnjojkeeffaaDoor
