/- The law PrinterValid. -/
import Derived.Test.YthkbnjojkeeffaaDoorHf
import Derived.Test.YthkbnjojkeeffaaDoorHc
import Derived.Test.YthkbnjojkeeffaaDoorPq
import Derived.Deep.Cut
namespace Go.Proofs.YthkbnjojkeeffaaDoor
open Go Go.RowKit Go.Shelf
set_option linter.unusedSimpArgs false

theorem nolf_run {l : List UInt8} (h : l.all (fun c => runB (bInt c)) = true) : l.all (fun c => noLf (bInt c)) = true := by
  rw [List.all_eq_true] at h ⊢
  intro c hc
  have := h c hc
  unfold noLf
  cases h10 : bInt c == 10 with
  | false => rfl
  | true =>
    rw [beq_iff_eq] at h10
    rw [h10] at this
    exact absurd this (by decide)
theorem nolf_rest (V : Tm → Prop) (H : ∀ t, V t → (textT t).all (fun c => noLf (bInt c)) = true) : ∀ (l : List Tm), (∀ u ∈ l, V u) → (textR l).all (fun c => noLf (bInt c)) = true := by
  intro l
  induction l with
  | nil => intro _; rfl
  | cons t l ih =>
    intro h
    rw [textR, List.all_cons, List.all_append, H t (h t (by simp)), ih (fun u hu => h u (by simp [hu]))]
    rfl
theorem nolf_term : ∀ (d : Nat) (t : Tm), validT true d t = true → (textT t).all (fun c => noLf (bInt c)) = true := by
  intro d
  induction d with
  | zero => intro t h; rw [validT] at h; cases h
  | succ d ih =>
    intro t h
    have hr := nolf_run (valid_run h)
    obtain ⟨nm, l⟩ := t
    simp only [Tm.name] at hr
    match l, h with
    | [], _ => rw [textT]; exact hr
    | t :: l, h =>
      obtain ⟨_, _, ht, hall⟩ := valid_node h
      rw [textT, List.all_append, hr, List.all_cons, List.all_append, ih t ht, List.all_append, nolf_rest (fun t => validT true d t = true) ih l hall]
      rfl
theorem nolf_lit {l : Li} (h : atomV l.atom = true) : (litT l).all (fun c => noLf (bInt c)) = true := by
  unfold atomV at h
  rw [Bool.and_eq_true] at h
  unfold litT
  rw [List.all_append, nolf_term 4 _ h.1]
  cases l.neg <;> rfl
theorem nolf_tail : ∀ (b : List Li), (∀ x ∈ b, atomV x.atom = true) → (Lib.joinTail [32, 97, 110, 100, 32] (ltxs b)).all (fun c => noLf (bInt c)) = true := by
  intro b
  induction b with
  | nil => intro _; rfl
  | cons l b ih =>
    intro h
    have e : Lib.joinTail [32, 97, 110, 100, 32] (ltxs (l :: b)) = [32, 97, 110, 100, 32] ++ litT l ++ Lib.joinTail [32, 97, 110, 100, 32] (ltxs b) := by simp [ltxs, Lib.joinTail]
    rw [e, List.all_append, List.all_append, nolf_lit (h l (by simp)), ih (fun x hx => h x (by simp [hx]))]
    rfl
theorem nolf_rule {x : Ru} (h : ruleV x) : (ruleT x).all (fun c => noLf (bInt c)) = true := by
  obtain ⟨hh, h8, hb⟩ := h
  obtain ⟨hd_, bd⟩ := x
  simp only at hh hb
  unfold atomV at hh
  rw [Bool.and_eq_true] at hh
  unfold ruleT
  simp only
  rw [List.all_append, List.all_append, nolf_term 4 _ hh.1]
  match bd, hb with
  | [], _ => rfl
  | l :: b, hb =>
    unfold bodyS
    rw [bodyT_cons]
    simp only [List.isEmpty_cons, Bool.false_eq_true, if_false]
    rw [List.all_append, List.all_append, nolf_lit (hb l (by simp)), nolf_tail b (fun x hx => hb x (by simp [hx]))]
    rfl

set_option maxHeartbeats 1000000 in
theorem feed_no (w : World) (s : ByteArray) (hs : s.size ≤ 9223372036854775807) (h : s.data.toList.all (fun c => noLf (bInt c)) = true) : Calls Tryd.prog 30 #[.string s] w fun e w' => e = .returned (.bool false) ∧ w = w' := by
  have HN := Lib.hid (fun (k : Nat) (hk : k < s.size) => (show ((s[k].toNat : Int) == 10) = false by
    have := List.all_eq_true.1 h s[k] (by rw [show s[k] = s.data.toList[k]'(by simpa using hk) from rfl]; exact List.getElem_mem _)
    unfold noLf bInt at this
    simpa using this))
  clear h
  go_enter Tryd.func30, Tryd.ntmps30
  go_wp2_with fail
  go_loop [3] (fun i => ∃ k : Nat, k ≤ s.size ∧ i = .int .i64 k) (fun i => s.size - (intOf i).toNat)
  case atStart => exact ⟨0, Nat.zero_le _, rfl⟩
  case round =>
    obtain ⟨k, hk, rfl⟩ := hrel
    by_cases hlt : k < s.size
    · have hn := HN.out k hlt
      go_wp2_with fail
      go_round
      case rel => exact ⟨k + 1, by omega, by go_num⟩
      case measure => simp [intOf]; omega
    · go_wp2_with fail
      go_ret
      exact ⟨rfl, rfl⟩

set_option maxHeartbeats 8000000 in
set_option maxRecDepth 100000 in
theorem law_valid (w : World) (hW : Wd w) (P : Nat → Prop) (nm : List UInt8) (A : Option Addr) (cp : Nat) (l : List Tm) (A2 : Option Addr) (cp2 : Nat) (body : List Li) (hv : TmV w P [.string (bs nm), .slice A l.length cp] (.mk nm l)) (ha : SlV LiV 3 w P A2 body) (hP : ∀ b, P b → b < w.heap.size) (hR : RuW ⟨.mk nm l, body⟩) :
    Calls Tryd.prog 10 #[.agg #[.string (bs nm), .slice A l.length cp, .slice A2 body.length cp2]] w (YesP w) := by
  have HW := Lib.hid hW
  have HBX := Lib.hid (one_box w (.cells #[.string (bs nm), .slice A l.length cp, .slice A2 body.length cp2] 27))
  have CF := Lib.hid (fun (y : World) (hy : Below w.heap.size w y) => few_any y P nm A cp l A2 cp2 body (hv.keep (fun b' hp hb' => ⟨hp, hy.block b' hb'⟩) hy.size) (ha.keep keeps_li (fun b' hp hb' => ⟨hp, hy.block b' hb'⟩) hy.size) hR.tmb (Nat.le_trans hR.len (by omega)) hR.tmbs)
  have CT := Lib.hid (fun (y : World) (hy : Below w.heap.size w y) => rulex_any y P nm A cp l A2 cp2 body (hv.keep (fun b' hp hb' => ⟨hp, hy.block b' hb'⟩) hy.size) (ha.keep keeps_li (fun b' hp hb' => ⟨hp, hy.block b' hb'⟩) hy.size) (fun b' hp => Nat.lt_of_lt_of_le (hP b' hp) hy.size) (Nat.le_trans hR.head (by omega)) (Nat.le_trans hR.len (by omega)) (fun t ht => Nat.le_trans (hR.lits t ht) (by omega)) (Nat.le_trans hR.body (by omega)))
  have CV := Lib.hid (fun (y : World) (hy : Below w.heap.size w y) => rvalidx_any y P nm A cp l A2 cp2 body (hv.keep (fun b' hp hb' => ⟨hp, hy.block b' hb'⟩) hy.size) (ha.keep keeps_li (fun b' hp hb' => ⟨hp, hy.block b' hb'⟩) hy.size) (fun b' hp => Nat.lt_of_lt_of_le (hP b' hp) hy.size) hR.tmb (Nat.le_trans hR.len (by omega)) hR.tmbs)
  have CA := Lib.hid (fun (y : World) (hy : Below w.heap.size w y) => awake_any y (HW.out.below hy HW.out.1))
  have hsz := ruleT_len hR
  have hs : (bs (ruleT ⟨.mk nm l, body⟩)).size ≤ 9223372036854775807 := by rw [size_bs]; omega
  have CR := Lib.hid (fun (y : World) (hy : Below w.heap.size w y) => prule_any y (bs (ruleT ⟨.mk nm l, body⟩)) hs (HW.out.below hy HW.out.1))
  have HRV := Lib.hid (show ∀ y : World, Below w.heap.size w y → RuV y P [.string (bs nm), .slice A l.length cp, .slice A2 body.length cp2] ⟨.mk nm l, body⟩ from fun y hy => ⟨[.string (bs nm), .slice A l.length cp], A2, cp2, rfl, hv.keep (fun b' hp hb' => ⟨hp, hy.block b' hb'⟩) hy.size, ha.keep keeps_li (fun b' hp hb' => ⟨hp, hy.block b' hb'⟩) hy.size⟩)
  rw [toList_bs] at CR
  have FN := Lib.hid (fun (h : ruleV ⟨.mk nm l, body⟩) (y : World) => feed_no y (bs (ruleT ⟨.mk nm l, body⟩)) hs (by rw [toList_bs]; exact nolf_rule h))
  clear hv ha hP hR hW hsz hs
  go_enter Tryd.func10, Tryd.ntmps10
  have c0 := cell_blk HBX.out.2 0
  have c1 := cell_blk HBX.out.2 1
  have c2 := cell_blk HBX.out.2 2
  go_wp2_with fail
  clear c0 c1 c2
  generalize w.alloc (.cells #[.string (bs nm), .slice A l.length cp, .slice A2 body.length cp2] 27) = w0 at *
  refine (CF.out w0 HBX.out.1).mono ?_
  rintro e w1 ⟨q, rfl, hb⟩
  have HB1 := Lib.hid (HBX.out.1.trans (hb.mono HBX.out.1.size))
  have HX1 := Lib.hid ((hb.block _ (Array.getElem?_eq_some_iff.1 HBX.out.2).1).trans HBX.out.2)
  clear hb CF HBX
  cases q
  · go_wp2_with fail
    refine (CA.out _ HB1.out).mono ?_
    rintro e w2 ⟨rfl, hb⟩
    have HB2 := Lib.hid (HB1.out.trans (hb.mono HB1.out.size))
    clear hb
    go_wp2_with fail
    go_ret
    exact ⟨rfl, HB2.out⟩
  have c0 := cell_blk HX1.out 0
  have c1 := cell_blk HX1.out 1
  have c2 := cell_blk HX1.out 2
  go_wp2_with fail
  clear c0 c1 c2
  refine (CT.out w1 HB1.out).mono ?_
  rintro e w2 ⟨rfl, hb⟩
  have HB2 := Lib.hid (HB1.out.trans (hb.mono HB1.out.size))
  have HX2 := Lib.hid ((hb.block _ (Array.getElem?_eq_some_iff.1 HX1.out).1).trans HX1.out)
  clear hb HB1 HX1
  have CR2 := Lib.hid (CR.out w2 HB2.out)
  -- what is read back
  have HX : Hid ((∃ x, ruleRF (ruleT ⟨.mk nm l, body⟩) = .ok x ∧ RuS x ∧ eqR x ⟨.mk nm l, body⟩ = ruleOk ⟨.mk nm l, body⟩) ∨ (∃ p k, ruleRF (ruleT ⟨.mk nm l, body⟩) = .err p k ∧ k ≠ 0 ∧ ruleOk ⟨.mk nm l, body⟩ = false)) := by
    cases hok : ruleOk ⟨.mk nm l, body⟩ with
    | true =>
      have hv := (ruleOk_iff _).1 hok
      exact .inl ⟨_, rule_back hv (ok_len hok), rus_valid hv, eqR_refl _⟩
    | false =>
      cases hr : ruleRF (ruleT ⟨.mk nm l, body⟩) with
      | err p k => exact .inr ⟨p, k, rfl, nz_ruleR hr, rfl⟩
      | ok x =>
        have hv := ruleRF_valid hr
        refine .inl ⟨x, rfl, rus_valid hv, ?_⟩
        cases he : eqR x ⟨.mk nm l, body⟩ with
        | false => rfl
        | true =>
          rw [eqR_of he] at hv
          rw [(ruleOk_iff _).2 hv] at hok
          cases hok
  have HOK := Lib.hid ((ruleOk_iff ⟨.mk nm l, body⟩).1)
  rcases HX.out with ⟨x, hr, hrs, he⟩ | ⟨p, k, hr, hk, hf⟩
  · rw [hr] at CR2
    have HRS := Lib.hid hrs
    have HE := Lib.hid he
    clear hr hrs he CR HX
    generalize hso : bs (ruleT ⟨.mk nm l, body⟩) = so at *
    have HSO := Lib.hid hso
    clear hso
    go_wp2_with fail
    refine CR2.out.mono ?_
    rintro e wa ⟨hb1, v, rfl, x', rfl, hs1⟩
    obtain ⟨nmx, Ax, cx, lx, Ax2, cx2, rfl, _⟩ := hs1.form
    have hba : Below wa.heap.size wa (wa.alloc (.cells #[.string (bs nmx), .slice Ax lx.length cx, .slice Ax2 x.body.length cx2] 27)) := (Below.refl _ _).alloc (Nat.le_refl _) _
    have hab := hb1.trans (hba.mono hb1.size)
    have HB3 := Lib.hid (HB2.out.trans (hab.mono HB2.out.size))
    have HX3 := Lib.hid ((hab.block _ (Array.getElem?_eq_some_iff.1 HX2.out).1).trans HX2.out)
    have HY3 := Lib.hid (heap_alloc_new wa (.cells #[.string (bs nmx), .slice Ax lx.length cx, .slice Ax2 x.body.length cx2] 27))
    have HS3 := Lib.hid (keeps_ru _ _ _ (fun _ => True) _ _ hs1 (fun b _ hlt => ⟨trivial, hba.block b hlt⟩) hba.size)
    clear hb1 hba hab hs1
    go_upto_region 5 with fail
    generalize wa.alloc (.cells #[.string (bs nmx), .slice Ax lx.length cx, .slice Ax2 x.body.length cx2] 27) = w3 at *
    generalize wa.heap.size = qx at *
    have CE := Lib.hid (plRuleB HRS.out ⟨.mk nm l, body⟩ w3 (fun _ => True) P _ _ HS3.out (HRV.out w3 HB3.out))
    rw [HE.out] at CE
    have c0 := cell_blk HX3.out 0
    have c1 := cell_blk HX3.out 1
    have c2 := cell_blk HX3.out 2
    have d0 := cell_blk HY3.out 0
    have d1 := cell_blk HY3.out 1
    have d2 := cell_blk HY3.out 2
    clear HS3 HRV
    go_wp2_with fail
    clear c0 c1 c2 d0 d1 d2
    refine CE.out.mono ?_
    rintro e w4 ⟨rfl, hb⟩
    have HB4 := Lib.hid (HB3.out.trans (hb.mono HB3.out.size))
    have HX4 := Lib.hid ((hb.block _ (Array.getElem?_eq_some_iff.1 HX3.out).1).trans HX3.out)
    have c0 := cell_blk HX4.out 0
    have c1 := cell_blk HX4.out 1
    have c2 := cell_blk HX4.out 2
    clear hb CE HE
    have CV4 := Lib.hid (CV.out w4 HB4.out)
    cases hok : ruleOk ⟨.mk nm l, body⟩
    · rw [hok] at CV CV4
      clear hok
      go_wp2_with fail
      clear c0 c1 c2
      refine CV4.out.mono ?_
      rintro e w5 ⟨rfl, hb⟩
      have HB5 := Lib.hid (HB4.out.trans (hb.mono HB4.out.size))
      have HX5 := Lib.hid ((hb.block _ (Array.getElem?_eq_some_iff.1 HX4.out).1).trans HX4.out)
      have c0 := cell_blk HX5.out 0
      have c1 := cell_blk HX5.out 1
      have c2 := cell_blk HX5.out 2
      clear hb
      go_wp2_with fail
      clear c0 c1 c2
      refine (CV.out _ HB5.out).mono ?_
      rintro e w6 ⟨rfl, hb⟩
      have HB6 := Lib.hid (HB5.out.trans (hb.mono HB5.out.size))
      clear hb
      go_wp2_with fail
      refine (CA.out _ HB6.out).mono ?_
      rintro e w7 ⟨rfl, hb⟩
      have HB7 := Lib.hid (HB6.out.trans (hb.mono HB6.out.size))
      clear hb
      go_wp2_with fail
      go_ret
      exact ⟨rfl, HB7.out⟩
    · have FN2 := Lib.hid (FN.out (HOK.out hok))
      rw [hok] at CV CV4
      clear hok
      go_wp2_with fail
      clear c0 c1 c2
      refine CV4.out.mono ?_
      rintro e w5 ⟨rfl, hb⟩
      have HB5 := Lib.hid (HB4.out.trans (hb.mono HB4.out.size))
      have HX5 := Lib.hid ((hb.block _ (Array.getElem?_eq_some_iff.1 HX4.out).1).trans HX4.out)
      clear hb
      go_wp2_with fail
      refine (FN2.out w5).mono ?_
      rintro e w5' ⟨rfl, rfl⟩
      have c0 := cell_blk HX5.out 0
      have c1 := cell_blk HX5.out 1
      have c2 := cell_blk HX5.out 2
      go_wp2_with fail
      clear c0 c1 c2
      refine (CV.out _ HB5.out).mono ?_
      rintro e w6 ⟨rfl, hb⟩
      have HB6 := Lib.hid (HB5.out.trans (hb.mono HB5.out.size))
      clear hb
      go_wp2_with fail
      refine (CA.out _ HB6.out).mono ?_
      rintro e w7 ⟨rfl, hb⟩
      have HB7 := Lib.hid (HB6.out.trans (hb.mono HB6.out.size))
      clear hb
      go_wp2_with fail
      go_ret
      exact ⟨rfl, HB7.out⟩
  · rw [hr] at CR2
    rw [hf] at CV
    have e1 : (k == 0) = false := by simpa using hk
    have e2 : decide (k = 0) = false := by simpa using hk
    have hba0 : ∀ wa : World, Below wa.heap.size wa (wa.alloc (.cells #[.string ⟨#[]⟩, .slice none 0 0, .slice none 0 0] 27)) := fun wa => (Below.refl _ _).alloc (Nat.le_refl _) _
    have HBA := Lib.hid hba0
    clear hr hk hf CR HX HRV FN HOK hba0
    generalize bs (ruleT ⟨.mk nm l, body⟩) = so at *
    go_wp2_with fail
    refine CR2.out.mono ?_
    rintro e wa ⟨hb1, hee⟩
    subst hee
    have hab := hb1.trans ((HBA.out wa).mono hb1.size)
    have HB3 := Lib.hid (HB2.out.trans (hab.mono HB2.out.size))
    have HX3 := Lib.hid ((hab.block _ (Array.getElem?_eq_some_iff.1 HX2.out).1).trans HX2.out)
    clear hb1 hab HBA
    go_upto_region 5 with fail
    generalize wa.alloc (.cells #[.string ⟨#[]⟩, .slice none 0 0, .slice none 0 0] 27) = w3 at *
    have c0 := cell_blk HX3.out 0
    have c1 := cell_blk HX3.out 1
    have c2 := cell_blk HX3.out 2
    go_wp2_with fail
    clear c0 c1 c2
    refine (CV.out _ HB3.out).mono ?_
    rintro e w5 ⟨rfl, hb⟩
    have HB5 := Lib.hid (HB3.out.trans (hb.mono HB3.out.size))
    have HX5 := Lib.hid ((hb.block _ (Array.getElem?_eq_some_iff.1 HX3.out).1).trans HX3.out)
    have c0 := cell_blk HX5.out 0
    have c1 := cell_blk HX5.out 1
    have c2 := cell_blk HX5.out 2
    clear hb
    go_wp2_with fail
    clear c0 c1 c2
    refine (CV.out _ HB5.out).mono ?_
    rintro e w6 ⟨rfl, hb⟩
    have HB6 := Lib.hid (HB5.out.trans (hb.mono HB5.out.size))
    clear hb
    go_wp2_with fail
    refine (CA.out _ HB6.out).mono ?_
    rintro e w7 ⟨rfl, hb⟩
    have HB7 := Lib.hid (HB6.out.trans (hb.mono HB6.out.size))
    clear hb
    go_wp2_with fail
    go_ret
    exact ⟨rfl, HB7.out⟩
end Go.Proofs.YthkbnjojkeeffaaDoor
