/- Merged texts: gameplayerplain.parts, Small and SmallTerms answer (whatever they answer). SmallTerms answers; the law PrinterTerms holds for terms of any moderate size. -/
import Derived.Test.YtmplpbdldcokjaaGreatDoorXj
namespace Go.Proofs.YtmplpbdldcokjaaGreatDoor
/- gameplayerplain.parts, Small and SmallTerms answer (whatever they answer). -/
section
open Go Go.RowKit Go.Shelf
set_option linter.unusedSimpArgs false

/-- some number -/
def OutN (w : World) (e : Ending) (w' : World) : Prop := ∃ n : Int, e = .returned (.int .i64 n) ∧ Below w.heap.size w w'
/-- some answer -/
def OutQ (w : World) (e : Ending) (w' : World) : Prop := ∃ b : Bool, e = .returned (.bool b) ∧ Below w.heap.size w w'
set_option maxHeartbeats 8000000 in
set_option maxRecDepth 100000 in
theorem parts_any (m : Nat) (hm : m ≤ 1000) : ∀ (d : Nat) (_ : d ≤ 1000) (w : World) (P : Nat → Prop) (nm : List UInt8) (A : Option Addr) (cp : Nat) (l : List Tm), TmV w P [.string (bs nm), .slice A l.length cp] (.mk nm l) → TmB (.mk nm l) →
    Calls Tryz.prog 67 #[.agg #[.string (bs nm), .slice A l.length cp], .int .i64 m, .int .i64 d] w (OutN w) := by
  intro d
  induction d with
  | zero =>
    intro hd w P nm A cp l hv hb
    go_enter Tryz.func67, Tryz.ntmps67
    go_wp2_with fail
    go_ret
    exact ⟨_, rfl, (Below.refl _ _).alloc (Nat.le_refl _) _⟩
  | succ d ih =>
    intro hd w P nm A cp l hv hb
    have IH := Lib.hid (ih (by omega))
    have HBX := Lib.hid (one_box w (.cells #[.string (bs nm), .slice A l.length cp] 25))
    obtain ⟨xs', hxl, harr, hel⟩ := hv.parts
    have HV := Lib.hid (And.intro hxl (And.intro harr hel))
    have hlb : l.length ≤ 9223372036854775807 := by cases hb; assumption
    have HTB : Hid (∀ t ∈ l, TmB t) := by cases hb; assumption
    obtain ⟨dd, hdd⟩ : ∃ dd : Int, dd = ((d + 1 : Nat) : Int) := ⟨_, rfl⟩
    rw [← hdd]
    have e1 : decide (dd < 1) = false := decide_eq_false (by omega)
    have hdl : 1 ≤ dd := by omega
    have hdu : dd ≤ 1001 := by omega
    have HD1 : Hid ((d : Int) = dd - 1) := by unfold Hid; omega
    clear hdd
    clear ih hv hb hxl harr hel
    go_enter Tryz.func67, Tryz.ntmps67
    have c1 := cell_blk HBX.out.2 1
    go_wp2_with fail
    clear c1
    generalize w.alloc (.cells #[.string (bs nm), .slice A l.length cp] 25) = w0 at *
    go_loopw [7, 16] (fun v i wr => ∃ (k : Nat) (z : Int), k ≤ l.length ∧ i = .int .i64 k ∧ v = .int .i64 z ∧ Hid (Below w0.heap.size w0 wr)) (fun _ i _ => l.length - (intOf i).toNat)
    case atStart => exact ⟨0, 1, Nat.zero_le _, rfl, rfl, Below.refl _ _⟩
    case round =>
      obtain ⟨k, z, hk, rfl, rfl, HI⟩ := hrel
      have HB0 := Lib.hid (HBX.out.1.trans (HI.out.mono HBX.out.1.size))
      by_cases hlk : k < l.length
      rotate_left
      focus
        obtain rfl : k = l.length := by omega
        go_wp2_with fail
        go_ret
        exact ⟨_, rfl, HB0.out⟩
      have HX := Lib.hid ((HI.out.block _ (Array.getElem?_eq_some_iff.1 HBX.out.2).1).trans HBX.out.2)
      have c1 := cell_blk HX.out 1
      by_cases hz : (m : Int) < z
      · have e2 : decide ((m : Int) < z) = true := decide_eq_true hz
        go_wp2_with fail
        go_ret
        exact ⟨_, rfl, HB0.out⟩
      have e2 : decide ((m : Int) < z) = false := decide_eq_false hz
      obtain ⟨t, ht⟩ : ∃ t, l[k]? = some t := ⟨_, List.getElem?_eq_getElem hlk⟩
      obtain ⟨x, hx⟩ : ∃ x, xs'[k]? = some x := ⟨_, List.getElem?_eq_getElem (by rw [HV.out.1]; exact hlk)⟩
      have hv := HV.out.2.2 k x t hx ht
      have htb := HTB.out t (List.mem_of_getElem? ht)
      obtain ⟨nm', A', cp', l', rfl, rfl⟩ := hv.form
      obtain ⟨b0, o0, rfl, hb0, hbl, hc⟩ := HV.out.2.1 (by rw [HV.out.1]; omega)
      have f0 := (HB0.out.cell (p := ⟨b0, o0 + k * 2, none⟩) hbl).trans (hc k _ hx 0 _ rfl)
      have f1 := (HB0.out.cell (p := ⟨b0, o0 + k * 2 + 1, none⟩) hbl).trans (hc k _ hx 1 _ rfl)
      have CI := Lib.hid (IH.out wr P nm' A' cp' l' (hv.keep (fun b' hp hb' => ⟨hp, HB0.out.block b' hb'⟩) HB0.out.size) htb)
      clear hv hx hc ht htb
      rw [HD1.out] at CI
      go_wp2_with fail
      refine CI.out.mono ?_
      rintro e w4 ⟨z2, rfl, hb⟩
      have HB5 := Lib.hid (HI.out.trans (hb.mono HI.out.size))
      clear hb e2
      go_wp2_with fail
      go_roundw
      case rel => exact ⟨k + 1, _, by omega, by go_num, rfl, HB5.out⟩
      case measure => simp [intOf]; omega

set_option maxHeartbeats 4000000 in
set_option maxRecDepth 100000 in
theorem small_any (m : Nat) (hm : m ≤ 1000) (w : World) (P : Nat → Prop) (nm : List UInt8) (A : Option Addr) (cp : Nat) (l : List Tm) (hv : TmV w P [.string (bs nm), .slice A l.length cp] (.mk nm l)) (hb : TmB (.mk nm l)) :
    Calls Tryz.prog 47 #[.agg #[.string (bs nm), .slice A l.length cp], .int .i64 m] w (OutQ w) := by
  have HBX := Lib.hid (one_box w (.cells #[.string (bs nm), .slice A l.length cp] 25))
  have CP := Lib.hid (parts_any m hm m hm (w.alloc (.cells #[.string (bs nm), .slice A l.length cp] 25)) P nm A cp l (hv.keep (fun b' hp hb' => ⟨hp, HBX.out.1.block b' hb'⟩) HBX.out.1.size) hb)
  clear hv hb
  go_enter Tryz.func47, Tryz.ntmps47
  go_wp2_with fail
  refine CP.out.mono ?_
  rintro e w4 ⟨z2, rfl, hb⟩
  have HB := Lib.hid (HBX.out.1.trans (hb.mono HBX.out.1.size))
  clear hb
  go_wp2_with fail
  go_ret
  exact ⟨_, rfl, HB.out⟩

end
/- SmallTerms answers; the law PrinterTerms holds for terms of any moderate size. -/
section
open Go Go.RowKit Go.Shelf
set_option linter.unusedSimpArgs false

set_option maxHeartbeats 8000000 in
set_option maxRecDepth 100000 in
theorem smallterms_any (m : Nat) (hm : m ≤ 1000) (w : World) (P : Nat → Prop) (A : Option Addr) (cp : Nat) (l : List Tm) (hl : l.length ≤ 1000000000) (ha : SlV TmV 2 w P A l) (hb : ∀ t ∈ l, TmB t) :
    Calls Tryz.prog 48 #[.slice A l.length cp, .int .i64 m] w (OutQ w) := by
  obtain ⟨xs', hxl, harr, hel⟩ := ha
  have HV := Lib.hid (And.intro hxl (And.intro harr (And.intro hel hb)))
  clear hxl harr hel hb
  by_cases hml : m < l.length
  · have e1 : decide ((m : Int) < (l.length : Int)) = true := decide_eq_true (by omega)
    go_enter Tryz.func48, Tryz.ntmps48
    go_wp2_with fail
    go_ret
    exact ⟨_, rfl, Below.refl _ _⟩
  have e1 : decide ((m : Int) < (l.length : Int)) = false := decide_eq_false (by omega)
  go_enter Tryz.func48, Tryz.ntmps48
  go_wp2_with fail
  clear e1
  go_loopw [12] (fun i wr => ∃ k : Nat, k ≤ l.length ∧ i = .int .i64 k ∧ Hid (Below w.heap.size w wr)) (fun i _ => l.length - (intOf i).toNat)
  case atStart => exact ⟨0, Nat.zero_le _, rfl, Below.refl _ _⟩
  case round =>
    obtain ⟨k, hk, rfl, HI⟩ := hrel
    by_cases hlk : k < l.length
    rotate_left
    focus
      obtain rfl : k = l.length := by omega
      go_wp2_with fail
      go_ret
      exact ⟨_, rfl, HI.out⟩
    obtain ⟨t, ht⟩ : ∃ t, l[k]? = some t := ⟨_, List.getElem?_eq_getElem hlk⟩
    obtain ⟨x, hx⟩ : ∃ x, xs'[k]? = some x := ⟨_, List.getElem?_eq_getElem (by rw [HV.out.1]; exact hlk)⟩
    have hv := HV.out.2.2.1 k x t hx ht
    have htb := HV.out.2.2.2 t (List.mem_of_getElem? ht)
    obtain ⟨nm', A', cp', l', rfl, rfl⟩ := hv.form
    obtain ⟨b0, o0, rfl, hb0, hbl, hc⟩ := HV.out.2.1 (by rw [HV.out.1]; omega)
    have f0 := (HI.out.cell (p := ⟨b0, o0 + k * 2, none⟩) hbl).trans (hc k _ hx 0 _ rfl)
    have f1 := (HI.out.cell (p := ⟨b0, o0 + k * 2 + 1, none⟩) hbl).trans (hc k _ hx 1 _ rfl)
    have CI := Lib.hid (small_any m hm wr P nm' A' cp' l' (hv.keep (fun b' hp hb' => ⟨hp, HI.out.block b' hb'⟩) HI.out.size) htb)
    clear hv hx hc ht htb
    go_wp2_with fail
    refine CI.out.mono ?_
    rintro e w4 ⟨q, rfl, hb⟩
    have HB5 := Lib.hid (HI.out.trans (hb.mono HI.out.size))
    clear hb
    cases q
    · go_wp2_with fail
      go_ret
      exact ⟨_, rfl, HB5.out⟩
    · go_wp2_with fail
      go_roundw
      case rel => exact ⟨k + 1, by omega, by go_num, HB5.out⟩
      case measure => simp [intOf]; omega


end
end Go.Proofs.YtmplpbdldcokjaaGreatDoor
