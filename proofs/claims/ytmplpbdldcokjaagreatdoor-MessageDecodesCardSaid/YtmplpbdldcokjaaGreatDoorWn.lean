/- gameplayerref01.Valid: the walks of Constant, IsVariable, within. -/
import Derived.Test.YtmplpbdldcokjaaGreatDoorRn
import Derived.Test.YtmplpbdldcokjaaGreatDoorXf
import Derived.Test.YtmplpbdldcokjaaGreatDoorXi
namespace Go.Proofs.YtmplpbdldcokjaaGreatDoor
open Go Go.RowKit
set_option linter.unusedSimpArgs false

/-- a term that fits into memory -/
inductive TmB : Tm → Prop
  | mk (nm : List UInt8) (l : List Tm) (hn : nm.length ≤ 9223372036854775807) (hl : l.length ≤ 9223372036854775807) (h : ∀ t ∈ l, TmB t) : TmB (.mk nm l)

set_option maxHeartbeats 2000000 in
theorem rConstant_leaf (w : World) (nm : List UInt8) (A : Option Addr) (cp : Nat) (hn : nm.length ≤ 9223372036854775807) :
    Calls Tryz.prog 112 #[.agg #[.string (bs nm), .slice A 0 cp]] w fun e w' => e = .returned (.bool (nameF nm || numF nm)) ∧ Below w.heap.size w w' := by
  have hb0 : Below w.heap.size w (w.alloc (.cells #[.string (bs nm), .slice A 0 cp] 25)) := (Below.refl _ _).alloc (Nat.le_refl _) _
  have HB := Lib.hid hb0
  have HN := Lib.hid (rName_any (w.alloc (.cells #[.string (bs nm), .slice A 0 cp] 25)) (bs nm) (by rw [size_bs]; exact hn))
  have HM := Lib.hid (rIsNumber_any (w.alloc (.cells #[.string (bs nm), .slice A 0 cp] 25)) (bs nm))
  rw [toList_bs] at HN HM
  clear hb0
  go_enter Tryz.func112, Tryz.ntmps112
  cases h1 : nameF nm <;> rw [h1] at HN
  · go_wp2_with fail
    refine HN.out.mono ?_
    rintro e w' ⟨rfl, rfl⟩
    go_wp2_with fail
    refine HM.out.mono ?_
    rintro e w' ⟨rfl, rfl⟩
    go_wp2_with fail
    go_ret
    exact ⟨ret_bool (by simp), HB.out⟩
  · go_wp2_with fail
    refine HN.out.mono ?_
    rintro e w' ⟨rfl, rfl⟩
    go_wp2_with fail
    go_ret
    exact ⟨ret_bool (by simp), HB.out⟩

set_option maxHeartbeats 2000000 in
theorem rIsVariable_leaf (w : World) (nm : List UInt8) (A : Option Addr) (cp : Nat) (hn : nm.length ≤ 9223372036854775807) :
    Calls Tryz.prog 113 #[.agg #[.string (bs nm), .slice A 0 cp]] w fun e w' => e = .returned (.bool (varF nm)) ∧ Below w.heap.size w w' := by
  have hb0 : Below w.heap.size w (w.alloc (.cells #[.string (bs nm), .slice A 0 cp] 25)) := (Below.refl _ _).alloc (Nat.le_refl _) _
  have HB := Lib.hid hb0
  have HN := Lib.hid (rVariable_any (w.alloc (.cells #[.string (bs nm), .slice A 0 cp] 25)) (bs nm) (by rw [size_bs]; exact hn))
  rw [toList_bs] at HN
  clear hb0
  go_enter Tryz.func113, Tryz.ntmps113
  go_wp2_with fail
  refine HN.out.mono ?_
  rintro e w' ⟨rfl, rfl⟩
  go_wp2_with fail
  go_ret
  exact ⟨rfl, HB.out⟩

theorem validT_leaf {v : Bool} {n : Nat} {nm : List UInt8} : validT v (n + 1) (.mk nm []) = ((nameF nm || numF nm) || (v && varF nm)) := by rw [validT, if_pos (by rfl)]; rfl
theorem validT_node {v : Bool} {n : Nat} {nm : List UInt8} {l : List Tm} (hl : l.length ≠ 0) : validT v (n + 1) (.mk nm l) = (nameF nm && decide (l.length ≤ 4) && l.all (validT v n)) := by
  rw [validT, if_neg (by exact hl)]; rfl
theorem all_take_snoc {α : Type} (p : α → Bool) (l : List α) (k : Nat) (h : k < l.length) : (l.take (k + 1)).all p = ((l.take k).all p && p l[k]) := by
  have e := List.take_succ_eq_append_getElem h
  rw [e, List.all_append, List.all_cons, List.all_nil, Bool.and_true]
theorem all_no_at {α : Type} (p : α → Bool) (l : List α) (k : Nat) (h : k < l.length) (hp : p l[k] = false) : l.all p = false := by
  rw [List.all_eq_false]
  exact ⟨l[k], List.getElem_mem _, by rw [hp]; simp⟩

set_option maxHeartbeats 8000000 in
set_option maxRecDepth 100000 in
theorem rwithin_any (v : Bool) : ∀ (n : Nat) (_ : n ≤ 4) (w : World) (P : Nat → Prop) (x : List Value) (t : Tm), TmV w P x t → TmB t →
    Calls Tryz.prog 89 #[.agg x.toArray, .int .i64 n, .bool (!v)] w fun e w' => e = .returned (.bool (validT v n t)) ∧ Below w.heap.size w w' := by
  intro n
  induction n with
  | zero =>
    intro _ w P x t hx hb
    obtain ⟨nm, A, cp, l, rfl, rfl⟩ := hx.form
    go_enter Tryz.func89, Tryz.ntmps89
    go_wp2_with fail
    go_ret
    exact ⟨ret_bool (by rw [validT]), (Below.refl _ _).alloc (Nat.le_refl _) _⟩
  | succ n ih =>
    intro h4 w P x t hx hb
    obtain ⟨nm, A, cp, l, rfl, rfl⟩ := hx.form
    obtain ⟨_, _, xs, he, hxl, hA, hxt⟩ := hx.inv
    injection he with _ he
    injection he with he _
    injection he with e1 e2 e3
    subst e1; subst e3
    cases hb with
    | mk _ _ hn hl hall =>
    have hb0 : Below w.heap.size w (w.alloc (.cells #[.string (bs nm), .slice A l.length cp] 25)) := (Below.refl _ _).alloc (Nat.le_refl _) _
    have HB := Lib.hid hb0
    have HXT := Lib.hid hxt
    have HAR := Lib.hid hA
    have HALL := Lib.hid hall
    have HIH := Lib.hid ih
    have HXL := Lib.hid hxl
    have HBLK := Lib.hid (heap_alloc_new w (.cells #[.string (bs nm), .slice A l.length cp] 25))
    have HSZ : Hid (w.heap.size < (w.alloc (.cells #[.string (bs nm), .slice A l.length cp] 25)).heap.size) := by unfold Hid; simp
    clear hxt hA hall ih hb0 hx hxl
    have hn1 : ((n + 1 : Nat) : Int) = (n : Int) + 1 := by omega
    rw [hn1]
    have hnn : (0 : Int) ≤ (n : Int) := by omega
    have hn4 : (n : Int) ≤ 3 := by omega
    clear hn1
    cases l with
    | nil =>
      have HV := Lib.hid (validT_leaf (v := v) (n := n) (nm := nm))
      clear HXT HAR HALL HIH HXL
      have HCN := Lib.hid (rConstant_leaf (w.alloc (.cells #[.string (bs nm), .slice A 0 cp] 25)) nm A cp hn)
      simp only [List.length_nil] at HB HBLK HSZ ⊢
      go_enter Tryz.func89, Tryz.ntmps89
      go_wp2_with fail
      generalize w.alloc (.cells #[.string (bs nm), .slice A 0 cp] 25) = w1 at *
      refine HCN.out.mono ?_
      cases hc : (nameF nm || numF nm)
      · rintro e w2 ⟨rfl, hb2⟩
        have HB2 := Lib.hid (HB.out.trans (hb2.mono HB.out.size))
        have hblk := (hb2.block _ HSZ.out).trans HBLK.out
        obtain ⟨c0, c1, f0, f1⟩ := cells_two hblk
        have hlt := heap_lt hblk
        clear f0 f1 hb2 hblk
        cases v
        · go_wp2_with fail
          go_ret
          exact ⟨ret_bool (by rw [HV.out, hc]; rfl), HB2.out⟩
        · go_wp2_with fail
          refine (rIsVariable_leaf w2 nm A cp hn).mono ?_
          rintro e w3 ⟨rfl, hb3⟩
          have HB3 := Lib.hid (HB2.out.trans (hb3.mono HB2.out.size))
          clear hb3
          go_wp2_with fail
          go_ret
          exact ⟨ret_bool (by rw [HV.out, hc]; simp), HB3.out⟩
      · rintro e w2 ⟨rfl, hb2⟩
        have HB2 := Lib.hid (HB.out.trans (hb2.mono HB.out.size))
        clear hb2
        go_wp2_with fail
        go_ret
        exact ⟨ret_bool (by rw [HV.out, hc]; rfl), HB2.out⟩
    | cons t0 l0 =>
      have HV := Lib.hid (validT_node (v := v) (n := n) (nm := nm) (l := t0 :: l0) (by simp))
      have hpos : 0 < (t0 :: l0).length := by simp
      generalize t0 :: l0 = l at *
      have hne : ((l.length : Int) == 0) = false := beq_eq_false_iff_ne.2 (by omega)
      have HCN := Lib.hid (rName_any (w.alloc (.cells #[.string (bs nm), .slice A l.length cp] 25)) (bs nm) (by rw [size_bs]; exact hn))
      rw [toList_bs] at HCN
      go_enter Tryz.func89, Tryz.ntmps89
      go_wp2_with fail
      generalize w.alloc (.cells #[.string (bs nm), .slice A l.length cp] 25) = w1 at *
      obtain ⟨c0, c1, f0, f1⟩ := cells_two HBLK.out
      have hlt := HSZ.out
      clear f0 f1
      refine HCN.out.mono ?_
      cases hnm : nameF nm
      · rintro e w2 ⟨rfl, rfl⟩
        go_wp2_with fail
        go_ret
        exact ⟨ret_bool (by rw [HV.out, hnm]; rfl), HB.out⟩
      · rintro e w2 ⟨rfl, rfl⟩
        by_cases h5 : (4 : Int) < (l.length : Int)
        · go_wp2_with fail
          go_ret
          exact ⟨ret_bool (by rw [HV.out, decide_eq_false (by omega : ¬ l.length ≤ 4)]; simp), HB.out⟩
        · have h5' : decide ((4 : Int) < (l.length : Int)) = false := by simpa using h5
          clear h5
          have hle : l.length ≤ 4 := by have := of_decide_eq_false h5'; omega
          go_wp2_with fail
          clear h5' hne
          go_loopw [37] (fun i wr => ∃ k : Nat, k ≤ l.length ∧ i = .int .i64 k ∧ Hid ((l.take k).all (validT v n) = true ∧ Below w1.heap.size w1 wr)) (fun i _ => l.length - (intOf i).toNat)
          case atStart => exact ⟨0, Nat.zero_le _, rfl, by simp, Below.refl _ _⟩
          case round =>
            obtain ⟨k, hk, rfl, HI⟩ := hrel
            have hcb : wr.cell? ⟨w.heap.size, 1, none⟩ = some (.slice A l.length cp) := (HI.out.2.cell (p := ⟨w.heap.size, 1, none⟩) hlt).trans c1
            have hltr : w.heap.size < wr.heap.size := Nat.lt_of_lt_of_le hlt HI.out.2.size
            clear c0 c1
            by_cases hlk : k < l.length
            · have hbw := HB.out.trans (HI.out.2.mono HB.out.size)
              obtain ⟨b, o, rfl, hP, hbl, hc⟩ := HAR.out (by have := HXL.out; omega)
              have hxk : xs[k]? = some (xs[k]'(by have := HXL.out; omega)) := List.getElem?_eq_getElem _
              have htk := HXT.out k _ _ hxk (List.getElem?_eq_getElem hlk)
              obtain ⟨nk, Ak, ck, lk, hxe, hte⟩ := htk.form
              have q0 : wr.cell? ⟨b, o + k * 2, none⟩ = some (.string (bs nk)) := (hbw.cell (p := ⟨b, o + k * 2, none⟩) hbl).trans (by have := hc k _ hxk 0 (.string (bs nk)) (by rw [hxe]; rfl); exact this)
              have q1 : wr.cell? ⟨b, o + k * 2 + 1, none⟩ = some (.slice Ak lk.length ck) := (hbw.cell (p := ⟨b, o + k * 2 + 1, none⟩) hbl).trans (by have := hc k _ hxk 1 (.slice Ak lk.length ck) (by rw [hxe]; rfl); exact this)
              have hbr : b < wr.heap.size := Nat.lt_of_lt_of_le hbl hbw.size
              have HK := Lib.hid (HIH.out (by omega) wr (fun _ => True) [.string (bs nk), .slice Ak lk.length ck] l[k] (by rw [← hxe]; exact htk.keep (fun b _ hl2 => ⟨trivial, hbw.block b hl2⟩) hbw.size) (HALL.out _ (List.getElem_mem hlk)))
              clear htk hc hxk hxe hte hbw hP
              go_wp2_with fail
              refine HK.out.mono ?_
              have HAS := Lib.hid (all_take_snoc (validT v n) l k hlk)
              cases hv : validT v n l[k]
              · rintro e w3 ⟨rfl, hb3⟩
                have HB3 := Lib.hid (HB.out.trans ((HI.out.2.trans (hb3.mono HI.out.2.size)).mono HB.out.size))
                clear hb3
                go_wp2_with fail
                go_ret
                exact ⟨ret_bool (by rw [HV.out, all_no_at _ l k hlk hv]; simp), HB3.out⟩
              · rintro e w3 ⟨rfl, hb3⟩
                have HB3 := Lib.hid (HI.out.2.trans (hb3.mono HI.out.2.size))
                clear hb3
                go_wp2_with fail
                go_roundw
                case rel => exact ⟨k + 1, by omega, by go_num, by rw [HAS.out, HI.out.1, hv]; rfl, HB3.out⟩
                case measure => simp [intOf]; omega
            · go_wp2_with fail
              go_ret
              obtain rfl : k = l.length := by omega
              exact ⟨ret_bool (by rw [HV.out, hnm, decide_eq_true hle]; have := HI.out.1; rw [List.take_length] at this; rw [this]; rfl), HB.out.trans (HI.out.2.mono HB.out.size)⟩

theorem tmb_valid {v : Bool} : ∀ (n : Nat) (t : Tm), validT v n t = true → TmB t := by
  intro n
  induction n with
  | zero => intro t h; rw [validT] at h; cases h
  | succ n ih =>
    intro t h
    have hnm : ∀ nm : List UInt8, nameF nm = true ∨ numF nm = true ∨ varF nm = true → nm.length ≤ 16 := by
      intro nm h
      rcases h with h | h | h
      · unfold nameF at h; simp only [Bool.and_eq_true, decide_eq_true_eq] at h; omega
      · unfold numF at h; simp only [Bool.and_eq_true, decide_eq_true_eq] at h; omega
      · unfold varF at h; simp only [Bool.and_eq_true, decide_eq_true_eq] at h; omega
    cases t with
    | mk nm l =>
    cases l with
    | nil =>
      rw [validT_leaf] at h
      have := hnm nm (by simp only [Bool.or_eq_true, Bool.and_eq_true] at h; rcases h with (h | h) | ⟨_, h⟩ <;> simp [h])
      exact .mk nm [] (by omega) (by simp) (by simp)
    | cons t0 l0 =>
      rw [validT_node (by simp), Bool.and_eq_true, Bool.and_eq_true] at h
      obtain ⟨⟨h1, h4⟩, hall⟩ := h
      have := hnm nm (.inl h1)
      have h4 := of_decide_eq_true h4
      exact .mk nm _ (by omega) (by omega) (fun t ht => ih t (List.all_eq_true.1 hall t ht))

end Go.Proofs.YtmplpbdldcokjaaGreatDoor
