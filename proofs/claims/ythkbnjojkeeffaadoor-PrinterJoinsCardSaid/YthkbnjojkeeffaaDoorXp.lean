/- Merged texts: gameplayerplain.parts, Small and SmallTerms answer (whatever they answer). SmallTerms answers; the law PrinterTerms holds for terms of any moderate size. few answers (whatever it answers). -/
import Derived.Test.YthkbnjojkeeffaaDoorXk
import Derived.Test.YthkbnjojkeeffaaDoorXm
namespace Go.Proofs.YthkbnjojkeeffaaDoor
/- gameplayerplain.parts, Small and SmallTerms answer (whatever they answer). -/
section
open Go Go.RowKit Go.Shelf
set_option linter.unusedSimpArgs false

/-- some number -/
def OutN (w : World) (e : Ending) (w' : World) : Prop := ∃ n : Int, e = .returned (.int .i64 n) ∧ Below w.heap.size w w'
/-- some answer -/
def OutQ (w : World) (e : Ending) (w' : World) : Prop := ∃ b : Bool, e = .returned (.bool b) ∧ Below w.heap.size w w'
set_option maxHeartbeats 8000000 in
set_option maxRecDepth 100000 in
theorem parts_any (m : Nat) (hm : m ≤ 1000) : ∀ (d : Nat) (_ : d ≤ 1000) (w : World) (P : Nat → Prop) (nm : List UInt8) (A : Option Addr) (cp : Nat) (l : List Tm), TmV w P [.string (bs nm), .slice A l.length cp] (.mk nm l) → TmB (.mk nm l) →
    Calls Tryd.prog 49 #[.agg #[.string (bs nm), .slice A l.length cp], .int .i64 m, .int .i64 d] w (OutN w) := by
  intro d
  induction d with
  | zero =>
    intro hd w P nm A cp l hv hb
    go_enter Tryd.func49, Tryd.ntmps49
    go_wp2_with fail
    go_ret
    exact ⟨_, rfl, (Below.refl _ _).alloc (Nat.le_refl _) _⟩
  | succ d ih =>
    intro hd w P nm A cp l hv hb
    have IH := Lib.hid (ih (by omega))
    have HBX := Lib.hid (one_box w (.cells #[.string (bs nm), .slice A l.length cp] 24))
    obtain ⟨xs', hxl, harr, hel⟩ := hv.parts
    have HV := Lib.hid (And.intro hxl (And.intro harr hel))
    have hlb : l.length ≤ 9223372036854775807 := by cases hb; assumption
    have HTB : Hid (∀ t ∈ l, TmB t) := by cases hb; assumption
    obtain ⟨dd, hdd⟩ : ∃ dd : Int, dd = ((d + 1 : Nat) : Int) := ⟨_, rfl⟩
    rw [← hdd]
    have e1 : decide (dd < 1) = false := decide_eq_false (by omega)
    have hdl : 1 ≤ dd := by omega
    have hdu : dd ≤ 1001 := by omega
    have HD1 : Hid ((d : Int) = dd - 1) := by unfold Hid; omega
    clear hdd
    clear ih hv hb hxl harr hel
    go_enter Tryd.func49, Tryd.ntmps49
    have c1 := cell_blk HBX.out.2 1
    go_wp2_with fail
    clear c1
    generalize w.alloc (.cells #[.string (bs nm), .slice A l.length cp] 24) = w0 at *
    go_loopw [7, 16] (fun v i wr => ∃ (k : Nat) (z : Int), k ≤ l.length ∧ i = .int .i64 k ∧ v = .int .i64 z ∧ Hid (Below w0.heap.size w0 wr)) (fun _ i _ => l.length - (intOf i).toNat)
    case atStart => exact ⟨0, 1, Nat.zero_le _, rfl, rfl, Below.refl _ _⟩
    case round =>
      obtain ⟨k, z, hk, rfl, rfl, HI⟩ := hrel
      have HB0 := Lib.hid (HBX.out.1.trans (HI.out.mono HBX.out.1.size))
      by_cases hlk : k < l.length
      rotate_left
      focus
        obtain rfl : k = l.length := by omega
        go_wp2_with fail
        go_ret
        exact ⟨_, rfl, HB0.out⟩
      have HX := Lib.hid ((HI.out.block _ (Array.getElem?_eq_some_iff.1 HBX.out.2).1).trans HBX.out.2)
      have c1 := cell_blk HX.out 1
      by_cases hz : (m : Int) < z
      · have e2 : decide ((m : Int) < z) = true := decide_eq_true hz
        go_wp2_with fail
        go_ret
        exact ⟨_, rfl, HB0.out⟩
      have e2 : decide ((m : Int) < z) = false := decide_eq_false hz
      obtain ⟨t, ht⟩ : ∃ t, l[k]? = some t := ⟨_, List.getElem?_eq_getElem hlk⟩
      obtain ⟨x, hx⟩ : ∃ x, xs'[k]? = some x := ⟨_, List.getElem?_eq_getElem (by rw [HV.out.1]; exact hlk)⟩
      have hv := HV.out.2.2 k x t hx ht
      have htb := HTB.out t (List.mem_of_getElem? ht)
      obtain ⟨nm', A', cp', l', rfl, rfl⟩ := hv.form
      obtain ⟨b0, o0, rfl, hb0, hbl, hc⟩ := HV.out.2.1 (by rw [HV.out.1]; omega)
      have f0 := (HB0.out.cell (p := ⟨b0, o0 + k * 2, none⟩) hbl).trans (hc k _ hx 0 _ rfl)
      have f1 := (HB0.out.cell (p := ⟨b0, o0 + k * 2 + 1, none⟩) hbl).trans (hc k _ hx 1 _ rfl)
      have CI := Lib.hid (IH.out wr P nm' A' cp' l' (hv.keep (fun b' hp hb' => ⟨hp, HB0.out.block b' hb'⟩) HB0.out.size) htb)
      clear hv hx hc ht htb
      rw [HD1.out] at CI
      go_wp2_with fail
      refine CI.out.mono ?_
      rintro e w4 ⟨z2, rfl, hb⟩
      have HB5 := Lib.hid (HI.out.trans (hb.mono HI.out.size))
      clear hb e2
      go_wp2_with fail
      go_roundw
      case rel => exact ⟨k + 1, _, by omega, by go_num, rfl, HB5.out⟩
      case measure => simp [intOf]; omega

set_option maxHeartbeats 4000000 in
set_option maxRecDepth 100000 in
theorem small_any (m : Nat) (hm : m ≤ 1000) (w : World) (P : Nat → Prop) (nm : List UInt8) (A : Option Addr) (cp : Nat) (l : List Tm) (hv : TmV w P [.string (bs nm), .slice A l.length cp] (.mk nm l)) (hb : TmB (.mk nm l)) :
    Calls Tryd.prog 31 #[.agg #[.string (bs nm), .slice A l.length cp], .int .i64 m] w (OutQ w) := by
  have HBX := Lib.hid (one_box w (.cells #[.string (bs nm), .slice A l.length cp] 24))
  have CP := Lib.hid (parts_any m hm m hm (w.alloc (.cells #[.string (bs nm), .slice A l.length cp] 24)) P nm A cp l (hv.keep (fun b' hp hb' => ⟨hp, HBX.out.1.block b' hb'⟩) HBX.out.1.size) hb)
  clear hv hb
  go_enter Tryd.func31, Tryd.ntmps31
  go_wp2_with fail
  refine CP.out.mono ?_
  rintro e w4 ⟨z2, rfl, hb⟩
  have HB := Lib.hid (HBX.out.1.trans (hb.mono HBX.out.1.size))
  clear hb
  go_wp2_with fail
  go_ret
  exact ⟨_, rfl, HB.out⟩

end
/- SmallTerms answers; the law PrinterTerms holds for terms of any moderate size. -/
section
open Go Go.RowKit Go.Shelf
set_option linter.unusedSimpArgs false

set_option maxHeartbeats 8000000 in
set_option maxRecDepth 100000 in
theorem smallterms_any (m : Nat) (hm : m ≤ 1000) (w : World) (P : Nat → Prop) (A : Option Addr) (cp : Nat) (l : List Tm) (hl : l.length ≤ 1000000000) (ha : SlV TmV 2 w P A l) (hb : ∀ t ∈ l, TmB t) :
    Calls Tryd.prog 17 #[.slice A l.length cp, .int .i64 m] w (OutQ w) := by
  obtain ⟨xs', hxl, harr, hel⟩ := ha
  have HV := Lib.hid (And.intro hxl (And.intro harr (And.intro hel hb)))
  clear hxl harr hel hb
  by_cases hml : m < l.length
  · have e1 : decide ((m : Int) < (l.length : Int)) = true := decide_eq_true (by omega)
    go_enter Tryd.func17, Tryd.ntmps17
    go_wp2_with fail
    go_ret
    exact ⟨_, rfl, Below.refl _ _⟩
  have e1 : decide ((m : Int) < (l.length : Int)) = false := decide_eq_false (by omega)
  go_enter Tryd.func17, Tryd.ntmps17
  go_wp2_with fail
  clear e1
  go_loopw [12] (fun i wr => ∃ k : Nat, k ≤ l.length ∧ i = .int .i64 k ∧ Hid (Below w.heap.size w wr)) (fun i _ => l.length - (intOf i).toNat)
  case atStart => exact ⟨0, Nat.zero_le _, rfl, Below.refl _ _⟩
  case round =>
    obtain ⟨k, hk, rfl, HI⟩ := hrel
    by_cases hlk : k < l.length
    rotate_left
    focus
      obtain rfl : k = l.length := by omega
      go_wp2_with fail
      go_ret
      exact ⟨_, rfl, HI.out⟩
    obtain ⟨t, ht⟩ : ∃ t, l[k]? = some t := ⟨_, List.getElem?_eq_getElem hlk⟩
    obtain ⟨x, hx⟩ : ∃ x, xs'[k]? = some x := ⟨_, List.getElem?_eq_getElem (by rw [HV.out.1]; exact hlk)⟩
    have hv := HV.out.2.2.1 k x t hx ht
    have htb := HV.out.2.2.2 t (List.mem_of_getElem? ht)
    obtain ⟨nm', A', cp', l', rfl, rfl⟩ := hv.form
    obtain ⟨b0, o0, rfl, hb0, hbl, hc⟩ := HV.out.2.1 (by rw [HV.out.1]; omega)
    have f0 := (HI.out.cell (p := ⟨b0, o0 + k * 2, none⟩) hbl).trans (hc k _ hx 0 _ rfl)
    have f1 := (HI.out.cell (p := ⟨b0, o0 + k * 2 + 1, none⟩) hbl).trans (hc k _ hx 1 _ rfl)
    have CI := Lib.hid (small_any m hm wr P nm' A' cp' l' (hv.keep (fun b' hp hb' => ⟨hp, HI.out.block b' hb'⟩) HI.out.size) htb)
    clear hv hx hc ht htb
    go_wp2_with fail
    refine CI.out.mono ?_
    rintro e w4 ⟨q, rfl, hb⟩
    have HB5 := Lib.hid (HI.out.trans (hb.mono HI.out.size))
    clear hb
    cases q
    · go_wp2_with fail
      go_ret
      exact ⟨_, rfl, HB5.out⟩
    · go_wp2_with fail
      go_roundw
      case rel => exact ⟨k + 1, by omega, by go_num, HB5.out⟩
      case measure => simp [intOf]; omega

set_option maxHeartbeats 8000000 in
set_option maxRecDepth 100000 in
theorem law_terms (w : World) (hW : Wd w) (P : Nat → Prop) (A : Option Addr) (cp : Nat) (l : List Tm) (hl : l.length ≤ 1000000000) (ha : SlV TmV 2 w P A l) (hP : ∀ b, P b → b < w.heap.size) (hw : ∀ t ∈ l, wT t ≤ 400000000) (hm : ∀ k, (Lib.join (txs (l.take k)) [44, 32]).length ≤ 100000000) :
    Calls Tryd.prog 4 #[.slice A l.length cp] w (YesP w) := by
  have hmm : (Lib.join (txs l) [44, 32]).length ≤ 1000000000 := by
    have := hm l.length
    rw [List.take_length] at this
    omega
  have HW := Lib.hid hW
  have CS := Lib.hid (smallterms_any 40 (by omega) w P A cp l hl ha (fun t ht => tmb_w _ _ (hw t ht) (by omega)))
  have CA := Lib.hid (fun (y : World) (hy : Below w.heap.size w y) => awake_any y (HW.out.below hy HW.out.1))
  have CT := Lib.hid (fun (y : World) (hy : Below w.heap.size w y) => terms_text y P A cp l hl (ha.keep keeps_tm (fun b hp hb => ⟨hp, hy.block b hb⟩) hy.size) (fun b hp => Nat.lt_of_lt_of_le (hP b hp) hy.size) hw hmm)
  have CR := Lib.hid (fun (y : World) (hy : Below w.heap.size w y) => rterms_text y P A cp l hl (ha.keep keeps_tm (fun b hp hb => ⟨hp, hy.block b hb⟩) hy.size) (fun b hp => Nat.lt_of_lt_of_le (hP b hp) hy.size) hw hm)
  clear ha hP hw hm hmm hW
  generalize bs (Lib.join (txs l) [44, 32]) = s at *
  go_enter Tryd.func4, Tryd.ntmps4
  go_wp2_with fail
  refine CS.out.mono ?_
  rintro e w1 ⟨q, rfl, hb⟩
  have HB := Lib.hid hb
  clear hb
  cases q
  · go_wp2_with fail
    refine (CA.out _ HB.out).mono ?_
    rintro e w2 ⟨rfl, hb⟩
    have HB2 := Lib.hid (HB.out.trans (hb.mono HB.out.size))
    clear hb
    go_wp2_with fail
    go_ret
    exact ⟨rfl, HB2.out⟩
  · go_wp2_with fail
    refine (CT.out _ HB.out).mono ?_
    rintro e w2 ⟨rfl, hb⟩
    have HB2 := Lib.hid (HB.out.trans (hb.mono HB.out.size))
    clear hb HB
    go_wp2_with fail
    refine (CR.out _ HB2.out).mono ?_
    rintro e w3 ⟨rfl, hb⟩
    have HB3 := Lib.hid (HB2.out.trans (hb.mono HB2.out.size))
    clear hb HB2
    go_wp2_with fail
    refine (CA.out _ HB3.out).mono ?_
    rintro e w4 ⟨rfl, hb⟩
    have HB4 := Lib.hid (HB3.out.trans (hb.mono HB3.out.size))
    clear hb HB3
    go_wp2_with fail
    go_ret
    exact ⟨rfl, HB4.out⟩

end
/- few answers (whatever it answers). -/
section
open Go Go.RowKit Go.Shelf
set_option linter.unusedSimpArgs false

set_option maxHeartbeats 8000000 in
set_option maxRecDepth 100000 in
theorem few_any (w : World) (P : Nat → Prop) (nm : List UInt8) (A : Option Addr) (cp : Nat) (l : List Tm) (A2 : Option Addr) (cp2 : Nat) (body : List Li) (hv : TmV w P [.string (bs nm), .slice A l.length cp] (.mk nm l)) (ha : SlV LiV 3 w P A2 body) (hb : TmB (.mk nm l)) (hl : body.length ≤ 9223372036854775807) (hw : ∀ t ∈ body, TmB t.atom) :
    Calls Tryd.prog 11 #[.agg #[.string (bs nm), .slice A l.length cp, .slice A2 body.length cp2]] w (OutQ w) := by
  obtain ⟨xs', hxl, harr, hel⟩ := ha
  have HV := Lib.hid (And.intro hxl (And.intro harr (And.intro hel hw)))
  have HBX := Lib.hid (one_box w (.cells #[.string (bs nm), .slice A l.length cp, .slice A2 body.length cp2] 27))
  have CA := Lib.hid (small_any 100 (by omega) (w.alloc (.cells #[.string (bs nm), .slice A l.length cp, .slice A2 body.length cp2] 27)) P nm A cp l (hv.keep (fun b' hp hb' => ⟨hp, HBX.out.1.block b' hb'⟩) HBX.out.1.size) hb)
  clear hv hxl harr hel hw hb
  go_enter Tryd.func11, Tryd.ntmps11
  have c1 := cell_blk HBX.out.2 1
  have c0 := cell_blk HBX.out.2 0
  go_wp2_with fail
  clear c0 c1
  generalize w.alloc (.cells #[.string (bs nm), .slice A l.length cp, .slice A2 body.length cp2] 27) = w0 at *
  refine CA.out.mono ?_
  rintro e w1 ⟨q, rfl, hb⟩
  have HB1 := Lib.hid (HBX.out.1.trans (hb.mono HBX.out.1.size))
  have HX1 := Lib.hid ((hb.block _ (Array.getElem?_eq_some_iff.1 HBX.out.2).1).trans HBX.out.2)
  clear hb CA HBX
  cases q
  · go_wp2_with fail
    go_ret
    exact ⟨_, rfl, HB1.out⟩
  have c2 := cell_blk HX1.out 2
  by_cases h12 : 12 < body.length
  · have e1 : decide ((12 : Int) < (body.length : Int)) = true := decide_eq_true (by omega)
    go_wp2_with fail
    go_ret
    exact ⟨_, rfl, HB1.out⟩
  have e1 : decide ((12 : Int) < (body.length : Int)) = false := decide_eq_false (by omega)
  go_wp2_with fail
  clear c2 e1
  go_loopw [3] (fun i wr => ∃ k : Nat, k ≤ body.length ∧ i = .int .i64 k ∧ Hid (Below w1.heap.size w1 wr)) (fun i _ => body.length - (intOf i).toNat)
  case atStart => exact ⟨0, Nat.zero_le _, rfl, Below.refl _ _⟩
  case round =>
    obtain ⟨k, hk, rfl, HI⟩ := hrel
    have HB0 := Lib.hid (HB1.out.trans (HI.out.mono HB1.out.size))
    have HX := Lib.hid ((HI.out.block _ (Array.getElem?_eq_some_iff.1 HX1.out).1).trans HX1.out)
    have c2 := cell_blk HX.out 2
    by_cases hlk : k < body.length
    rotate_left
    focus
      obtain rfl : k = body.length := by omega
      go_wp2_with fail
      go_ret
      exact ⟨_, rfl, HB0.out⟩
    obtain ⟨t, ht⟩ : ∃ t, body[k]? = some t := ⟨_, List.getElem?_eq_getElem hlk⟩
    obtain ⟨x, hx⟩ : ∃ x, xs'[k]? = some x := ⟨_, List.getElem?_eq_getElem (by rw [HV.out.1]; exact hlk)⟩
    have hv := HV.out.2.2.1 k x t hx ht
    obtain ⟨ng, nm', A', cp', l', rfl, rfl⟩ := hv.form
    obtain ⟨y', hy', hvt⟩ := hv
    obtain rfl : [.string (bs nm'), .slice A' l'.length cp'] = y' := by injection hy'
    obtain ⟨b0, o0, rfl, hb0, hbl, hc⟩ := HV.out.2.1 (by rw [HV.out.1]; omega)
    have f0 := (HB0.out.cell (p := ⟨b0, o0 + k * 3, none⟩) hbl).trans (hc k _ hx 0 _ rfl)
    have f1 := (HB0.out.cell (p := ⟨b0, o0 + k * 3 + 1, none⟩) hbl).trans (hc k _ hx 1 _ rfl)
    have f2 := (HB0.out.cell (p := ⟨b0, o0 + k * 3 + 2, none⟩) hbl).trans (hc k _ hx 2 _ rfl)
    have hwt : TmB (.mk nm' l') := HV.out.2.2.2 _ (List.mem_of_getElem? ht)
    have CT := Lib.hid (small_any 100 (by omega) wr P nm' A' cp' l' (hvt.keep (fun b' hp hb' => ⟨hp, HB0.out.block b' hb'⟩) HB0.out.size) hwt)
    clear hvt hy' hx hc ht hwt
    go_wp2_with fail
    refine CT.out.mono ?_
    rintro e w4 ⟨q, rfl, hb⟩
    have HB5 := Lib.hid (HI.out.trans (hb.mono HI.out.size))
    have HB6 := Lib.hid (HB0.out.trans (hb.mono HB0.out.size))
    clear hb
    cases q
    · go_wp2_with fail
      go_ret
      exact ⟨_, rfl, HB6.out⟩
    · go_wp2_with fail
      go_roundw
      case rel => exact ⟨k + 1, by omega, by go_num, HB5.out⟩
      case measure => simp [intOf]; omega

end
end Go.Proofs.YthkbnjojkeeffaaDoor
