/- The walks of Valid for rules, of the printer and of the reference. -/
import Derived.Test.YthkbnjojkeeffaaDoorGx
namespace Go.Proofs.YthkbnjojkeeffaaDoor
open Go Go.RowKit Go.Shelf
set_option linter.unusedSimpArgs false

theorem allx_take {α : Type} (p : α → Bool) {l : List α} {k : Nat} {t : α} (h : l[k]? = some t) : (l.take (k + 1)).all p = ((l.take k).all p && p t) := by
  obtain ⟨h1, h2⟩ := List.getElem?_eq_some_iff.1 h
  rw [List.take_succ_eq_append_getElem h1, h2, List.all_append]
  simp
theorem allx_no {α : Type} (p : α → Bool) {l : List α} {k : Nat} {t : α} (h : l[k]? = some t) (hp : p t = false) : l.all p = false := by
  refine Bool.eq_false_iff.2 fun hc => ?_
  have := List.all_eq_true.1 hc t (List.mem_of_getElem? h)
  rw [hp] at this
  cases this

set_option maxHeartbeats 8000000 in
set_option maxRecDepth 100000 in
theorem rvalidx_any (w : World) (P : Nat → Prop) (nm : List UInt8) (A : Option Addr) (cp : Nat) (l : List Tm) (A2 : Option Addr) (cp2 : Nat) (body : List Li) (hv : TmV w P [.string (bs nm), .slice A l.length cp] (.mk nm l)) (ha : SlV LiV 3 w P A2 body) (hP : ∀ b, P b → b < w.heap.size) (hb : TmB (.mk nm l)) (hl : body.length ≤ 9223372036854775807) (hw : ∀ t ∈ body, TmB t.atom) :
    Calls Tryd.prog 20 #[.agg #[.string (bs nm), .slice A l.length cp, .slice A2 body.length cp2]] w (OutB w (.bool (ruleOk ⟨.mk nm l, body⟩))) := by
  obtain ⟨xs', hxl, harr, hel⟩ := ha
  have HV := Lib.hid (And.intro hxl (And.intro harr (And.intro hel (And.intro hP hw))))
  have HBX := Lib.hid (one_box w (.cells #[.string (bs nm), .slice A l.length cp, .slice A2 body.length cp2] 27))
  have CA := Lib.hid (patom_any (w.alloc (.cells #[.string (bs nm), .slice A l.length cp, .slice A2 body.length cp2] 27)) P nm A cp l (hv.keep (fun b' hp hb' => ⟨hp, HBX.out.1.block b' hb'⟩) HBX.out.1.size) hb (fun b' hp => Nat.lt_of_lt_of_le (hP b' hp) HBX.out.1.size))
  have HR : Hid (∀ v, ruleOk ⟨.mk nm l, body⟩ = v → Ending.returned (Value.bool v) = Ending.returned (Value.bool (ruleOk ⟨.mk nm l, body⟩))) := fun v h => by rw [h]
  have HD : Hid (ruleOk ⟨.mk nm l, body⟩ = (decide (body.length ≤ 8) && atomV (.mk nm l) && body.all (fun t => atomV t.atom))) := rfl
  clear hv hxl harr hel hP hw hb
  generalize atomV (.mk nm l) = p at *
  by_cases h8 : 8 < body.length
  · have e1 : decide ((8 : Int) < (body.length : Int)) = true := decide_eq_true (by omega)
    go_enter Tryd.func20, Tryd.ntmps20
    have c2 := cell_blk HBX.out.2 2
    go_wp2_with fail
    go_ret
    exact ⟨HR.out _ (by rw [HD.out]; simp; omega), HBX.out.1⟩
  have e1 : decide ((8 : Int) < (body.length : Int)) = false := decide_eq_false (by omega)
  cases p
  · go_enter Tryd.func20, Tryd.ntmps20
    have c2 := cell_blk HBX.out.2 2
    have c1 := cell_blk HBX.out.2 1
    have c0 := cell_blk HBX.out.2 0
    go_wp2_with fail
    clear c0 c1 c2
    generalize w.alloc (.cells #[.string (bs nm), .slice A l.length cp, .slice A2 body.length cp2] 27) = w0 at *
    refine CA.out.mono ?_
    rintro e w1 ⟨rfl, hb⟩
    have HB1 := Lib.hid (HBX.out.1.trans (hb.mono HBX.out.1.size))
    clear hb
    go_wp2_with fail
    go_ret
    exact ⟨HR.out _ (by rw [HD.out]; simp), HB1.out⟩
  go_enter Tryd.func20, Tryd.ntmps20
  have c2 := cell_blk HBX.out.2 2
  have c1 := cell_blk HBX.out.2 1
  have c0 := cell_blk HBX.out.2 0
  go_wp2_with fail
  clear c0 c1 c2
  generalize w.alloc (.cells #[.string (bs nm), .slice A l.length cp, .slice A2 body.length cp2] 27) = w0 at *
  refine CA.out.mono ?_
  rintro e w1 ⟨rfl, hb⟩
  have HB1 := Lib.hid (HBX.out.1.trans (hb.mono HBX.out.1.size))
  have HX1 := Lib.hid ((hb.block _ (Array.getElem?_eq_some_iff.1 HBX.out.2).1).trans HBX.out.2)
  clear hb CA HBX
  have c2 := cell_blk HX1.out 2
  go_wp2_with fail
  clear c2
  go_loopw [18] (fun i wr => ∃ k : Nat, k ≤ body.length ∧ i = .int .i64 k ∧ Hid ((body.take k).all (fun t => atomV t.atom) = true ∧ Below w1.heap.size w1 wr)) (fun i _ => body.length - (intOf i).toNat)
  case atStart => exact ⟨0, Nat.zero_le _, rfl, rfl, Below.refl _ _⟩
  case round =>
    obtain ⟨k, hk, rfl, HI⟩ := hrel
    have HB0 := Lib.hid (HB1.out.trans (HI.out.2.mono HB1.out.size))
    by_cases hlk : k < body.length
    rotate_left
    focus
      obtain rfl : k = body.length := by omega
      have HA := Lib.hid HI.out.1
      rw [List.take_length] at HA
      go_wp2_with fail
      go_ret
      exact ⟨HR.out _ (by rw [HD.out, HA.out, Bool.and_true, Bool.and_true]; exact decide_eq_true (by omega)), HB0.out⟩
    obtain ⟨t, ht⟩ : ∃ t, body[k]? = some t := ⟨_, List.getElem?_eq_getElem hlk⟩
    obtain ⟨x, hx⟩ : ∃ x, xs'[k]? = some x := ⟨_, List.getElem?_eq_getElem (by rw [HV.out.1]; exact hlk)⟩
    have hv := HV.out.2.2.1 k x t hx ht
    obtain ⟨ng, nm', A', cp', l', rfl, rfl⟩ := hv.form
    obtain ⟨y', hy', hvt⟩ := hv
    obtain rfl : [.string (bs nm'), .slice A' l'.length cp'] = y' := by injection hy'
    obtain ⟨b0, o0, rfl, hb0, hbl, hc⟩ := HV.out.2.1 (by rw [HV.out.1]; omega)
    have f0 := (HB0.out.cell (p := ⟨b0, o0 + k * 3, none⟩) hbl).trans (hc k _ hx 0 _ rfl)
    have f1 := (HB0.out.cell (p := ⟨b0, o0 + k * 3 + 1, none⟩) hbl).trans (hc k _ hx 1 _ rfl)
    have f2 := (HB0.out.cell (p := ⟨b0, o0 + k * 3 + 2, none⟩) hbl).trans (hc k _ hx 2 _ rfl)
    have hwt : TmB (.mk nm' l') := HV.out.2.2.2.2 _ (List.mem_of_getElem? ht)
    have HB3 := Lib.hid (one_box wr (.cells #[.bool ng, .string (bs nm'), .slice A' l'.length cp'] 32))
    have CT := Lib.hid (fun (y : World) (hy : Below w.heap.size w y) => patom_any y P nm' A' cp' l' (hvt.keep (fun b' hp hb' => ⟨hp, hy.block b' hb'⟩) hy.size) hwt (fun b' hp => Nat.lt_of_lt_of_le (HV.out.2.2.2.1 b' hp) hy.size))
    have HS := Lib.hid (fun (h : atomV (.mk nm' l') = true) => (show (body.take (k + 1)).all (fun t : Li => atomV t.atom) = true from (allx_take (fun t : Li => atomV t.atom) ht).trans (by rw [HI.out.1]; exact h)))
    have HF := Lib.hid (fun (h : atomV (.mk nm' l') = false) => HD.out.trans (by rw [allx_no (fun t : Li => atomV t.atom) ht h, Bool.and_false]))
    have hsz : w1.heap.size ≤ wr.heap.size := HI.out.2.size
    have HB4 := Lib.hid (HI.out.2.trans (HB3.out.1.mono hsz))
    clear hvt hy' hx hc ht hwt HI HB0
    generalize atomV (.mk nm' l') = q at *
    cases q
    · go_wp2_with fail
      have g0 := cell_blk HB3.out.2 0
      have g1 := cell_blk HB3.out.2 1
      have g2 := cell_blk HB3.out.2 2
      go_wp2_with fail
      clear g0 g1 g2
      generalize wr.alloc (.cells #[.bool ng, .string (bs nm'), .slice A' l'.length cp'] 32) = w3 at *
      refine (CT.out w3 (HB1.out.trans (HB4.out.mono HB1.out.size))).mono ?_
      rintro e w4 ⟨rfl, hb⟩
      have HB5 := Lib.hid ((HB1.out.trans (HB4.out.mono HB1.out.size)).trans (hb.mono (HB1.out.trans (HB4.out.mono HB1.out.size)).size))
      clear hb
      go_wp2_with fail
      go_ret
      exact ⟨HR.out _ (HF.out (by simp)), HB5.out⟩
    · go_wp2_with fail
      have g0 := cell_blk HB3.out.2 0
      have g1 := cell_blk HB3.out.2 1
      have g2 := cell_blk HB3.out.2 2
      go_wp2_with fail
      clear g0 g1 g2
      generalize wr.alloc (.cells #[.bool ng, .string (bs nm'), .slice A' l'.length cp'] 32) = w3 at *
      refine (CT.out w3 (HB1.out.trans (HB4.out.mono HB1.out.size))).mono ?_
      rintro e w4 ⟨rfl, hb⟩
      have HB5 := Lib.hid (HB4.out.trans (hb.mono HB4.out.size))
      clear hb
      go_wp2_with fail
      go_roundw
      case rel => exact ⟨k + 1, by omega, by go_num, HS.out (by simp), HB5.out⟩
      case measure => simp [intOf]; omega

set_option maxHeartbeats 8000000 in
set_option maxRecDepth 100000 in
theorem rrvalidx_any (w : World) (P : Nat → Prop) (nm : List UInt8) (A : Option Addr) (cp : Nat) (l : List Tm) (A2 : Option Addr) (cp2 : Nat) (body : List Li) (hv : TmV w P [.string (bs nm), .slice A l.length cp] (.mk nm l)) (ha : SlV LiV 3 w P A2 body) (hP : ∀ b, P b → b < w.heap.size) (hb : TmB (.mk nm l)) (hl : body.length ≤ 9223372036854775807) (hw : ∀ t ∈ body, TmB t.atom) :
    Calls Tryd.prog 21 #[.agg #[.string (bs nm), .slice A l.length cp, .slice A2 body.length cp2]] w (OutB w (.bool (ruleOk ⟨.mk nm l, body⟩))) := by
  obtain ⟨xs', hxl, harr, hel⟩ := ha
  have HV := Lib.hid (And.intro hxl (And.intro harr (And.intro hel (And.intro hP hw))))
  have HBX := Lib.hid (one_box w (.cells #[.string (bs nm), .slice A l.length cp, .slice A2 body.length cp2] 27))
  have CA := Lib.hid (ratom_any (w.alloc (.cells #[.string (bs nm), .slice A l.length cp, .slice A2 body.length cp2] 27)) P nm A cp l (hv.keep (fun b' hp hb' => ⟨hp, HBX.out.1.block b' hb'⟩) HBX.out.1.size) hb (fun b' hp => Nat.lt_of_lt_of_le (hP b' hp) HBX.out.1.size))
  have HR : Hid (∀ v, ruleOk ⟨.mk nm l, body⟩ = v → Ending.returned (Value.bool v) = Ending.returned (Value.bool (ruleOk ⟨.mk nm l, body⟩))) := fun v h => by rw [h]
  have HD : Hid (ruleOk ⟨.mk nm l, body⟩ = (decide (body.length ≤ 8) && atomV (.mk nm l) && body.all (fun t => atomV t.atom))) := rfl
  clear hv hxl harr hel hP hw hb
  generalize atomV (.mk nm l) = p at *
  cases p
  · go_enter Tryd.func21, Tryd.ntmps21
    have c1 := cell_blk HBX.out.2 1
    have c0 := cell_blk HBX.out.2 0
    go_wp2_with fail
    clear c0 c1
    generalize w.alloc (.cells #[.string (bs nm), .slice A l.length cp, .slice A2 body.length cp2] 27) = w0 at *
    refine CA.out.mono ?_
    rintro e w1 ⟨rfl, hb⟩
    have HB1 := Lib.hid (HBX.out.1.trans (hb.mono HBX.out.1.size))
    clear hb
    go_wp2_with fail
    go_ret
    exact ⟨HR.out _ (by rw [HD.out]; simp), HB1.out⟩
  go_enter Tryd.func21, Tryd.ntmps21
  have c1 := cell_blk HBX.out.2 1
  have c0 := cell_blk HBX.out.2 0
  go_wp2_with fail
  clear c0 c1
  generalize w.alloc (.cells #[.string (bs nm), .slice A l.length cp, .slice A2 body.length cp2] 27) = w0 at *
  refine CA.out.mono ?_
  rintro e w1 ⟨rfl, hb⟩
  have HB1 := Lib.hid (HBX.out.1.trans (hb.mono HBX.out.1.size))
  have HX1 := Lib.hid ((hb.block _ (Array.getElem?_eq_some_iff.1 HBX.out.2).1).trans HBX.out.2)
  clear hb CA HBX
  have c2 := cell_blk HX1.out 2
  by_cases h8 : 8 < body.length
  · have e1 : decide ((8 : Int) < (body.length : Int)) = true := decide_eq_true (by omega)
    go_wp2_with fail
    go_ret
    exact ⟨HR.out _ (by rw [HD.out]; simp; omega), HB1.out⟩
  have e1 : decide ((8 : Int) < (body.length : Int)) = false := decide_eq_false (by omega)
  go_wp2_with fail
  clear c2
  go_loopw [3] (fun i wr => ∃ k : Nat, k ≤ body.length ∧ i = .int .i64 k ∧ Hid ((body.take k).all (fun t => atomV t.atom) = true ∧ Below w1.heap.size w1 wr)) (fun i _ => body.length - (intOf i).toNat)
  case atStart => exact ⟨0, Nat.zero_le _, rfl, rfl, Below.refl _ _⟩
  case round =>
    obtain ⟨k, hk, rfl, HI⟩ := hrel
    have HB0 := Lib.hid (HB1.out.trans (HI.out.2.mono HB1.out.size))
    have HX := Lib.hid ((HI.out.2.block _ (Array.getElem?_eq_some_iff.1 HX1.out).1).trans HX1.out)
    have c2 := cell_blk HX.out 2
    by_cases hlk : k < body.length
    rotate_left
    focus
      obtain rfl : k = body.length := by omega
      have HA := Lib.hid HI.out.1
      rw [List.take_length] at HA
      go_wp2_with fail
      go_ret
      exact ⟨HR.out _ (by rw [HD.out, HA.out, Bool.and_true, Bool.and_true]; exact decide_eq_true (by omega)), HB0.out⟩
    obtain ⟨t, ht⟩ : ∃ t, body[k]? = some t := ⟨_, List.getElem?_eq_getElem hlk⟩
    obtain ⟨x, hx⟩ : ∃ x, xs'[k]? = some x := ⟨_, List.getElem?_eq_getElem (by rw [HV.out.1]; exact hlk)⟩
    have hv := HV.out.2.2.1 k x t hx ht
    obtain ⟨ng, nm', A', cp', l', rfl, rfl⟩ := hv.form
    obtain ⟨y', hy', hvt⟩ := hv
    obtain rfl : [.string (bs nm'), .slice A' l'.length cp'] = y' := by injection hy'
    obtain ⟨b0, o0, rfl, hb0, hbl, hc⟩ := HV.out.2.1 (by rw [HV.out.1]; omega)
    have f0 := (HB0.out.cell (p := ⟨b0, o0 + k * 3, none⟩) hbl).trans (hc k _ hx 0 _ rfl)
    have f1 := (HB0.out.cell (p := ⟨b0, o0 + k * 3 + 1, none⟩) hbl).trans (hc k _ hx 1 _ rfl)
    have f2 := (HB0.out.cell (p := ⟨b0, o0 + k * 3 + 2, none⟩) hbl).trans (hc k _ hx 2 _ rfl)
    have hwt : TmB (.mk nm' l') := HV.out.2.2.2.2 _ (List.mem_of_getElem? ht)
    have CT := Lib.hid (ratom_any wr P nm' A' cp' l' (hvt.keep (fun b' hp hb' => ⟨hp, HB0.out.block b' hb'⟩) HB0.out.size) hwt (fun b' hp => Nat.lt_of_lt_of_le (HV.out.2.2.2.1 b' hp) HB0.out.size))
    have HS := Lib.hid (fun (h : atomV (.mk nm' l') = true) => (show (body.take (k + 1)).all (fun t : Li => atomV t.atom) = true from (allx_take (fun t : Li => atomV t.atom) ht).trans (by rw [HI.out.1]; exact h)))
    have HF := Lib.hid (fun (h : atomV (.mk nm' l') = false) => HD.out.trans (by rw [allx_no (fun t : Li => atomV t.atom) ht h, Bool.and_false]))
    have hsz : w1.heap.size ≤ wr.heap.size := HI.out.2.size
    have HB4 := Lib.hid HI.out.2
    clear hvt hy' hx hc ht hwt HI
    generalize atomV (.mk nm' l') = q at *
    cases q
    · go_wp2_with fail
      refine CT.out.mono ?_
      rintro e w4 ⟨rfl, hb⟩
      have HB5 := Lib.hid (HB0.out.trans (hb.mono HB0.out.size))
      clear hb
      go_wp2_with fail
      go_ret
      exact ⟨HR.out _ (HF.out (by simp)), HB5.out⟩
    · go_wp2_with fail
      refine CT.out.mono ?_
      rintro e w4 ⟨rfl, hb⟩
      have HB5 := Lib.hid (HB4.out.trans (hb.mono HB4.out.size))
      clear hb
      go_wp2_with fail
      go_roundw
      case rel => exact ⟨k + 1, by omega, by go_num, HS.out (by simp), HB5.out⟩
      case measure => simp [intOf]; omega
end Go.Proofs.YthkbnjojkeeffaaDoor
