/- The walk of the law LexerCovers. -/
import Derived.Test.YtmpdnmnimdkfnaaDoorTq
import Derived.Test.YtmpdnmnimdkfnaaDoorTn
import Derived.IntWalk
namespace Go.Proofs.YtmpdnmnimdkfnaaDoor
open Go Go.RowKit Go.Shelf
set_option linter.unusedSimpArgs false

theorem cov_at {s : List UInt8} {e : Nat} {l : List Tok} {k : Nat} {kd : Int} {tx : List UInt8} {ps : Nat} (hk : k < l.length) (h : CovF s e (l.drop k)) (ht : l[k] = ⟨kd, tx, ps⟩) :
    e ≤ ps ∧ ps + tx.length ≤ s.length ∧ (s.drop ps).take tx.length = tx ∧ (∃ cm, gapF false ((s.drop e).take (ps - e)) = some cm) ∧ CovF s (ps + tx.length) (l.drop (k + 1)) := by
  rw [List.drop_eq_getElem_cons hk, ht] at h
  exact h
theorem gap_step {s : List UInt8} {e q ps : Nat} {cm : Bool} (h1 : e ≤ q) (h2 : q < ps) (h3 : ps ≤ s.length) (hg : gapF false ((s.drop e).take (q - e)) = some cm) (hw : ∃ cm, gapF false ((s.drop e).take (ps - e)) = some cm) :
    (gapN cm (s[q]'(by omega)) || blankB (bInt (s[q]'(by omega)))) = true ∧ gapF false ((s.drop e).take (q + 1 - e)) = some (gapN cm (s[q]'(by omega))) := by
  have e1 : s.drop q = s[q]'(by omega) :: s.drop (q + 1) := List.drop_eq_getElem_cons (by omega)
  obtain ⟨c2, hw⟩ := hw
  have hs : ps - q = (ps - q - 1) + 1 := by omega
  rw [show ps - e = q + (ps - q) - e from by omega, take_split h1, gapF_app, hg, e1, hs, List.take_succ_cons] at hw
  simp only [Option.bind_some] at hw
  rw [gapF_cons] at hw
  have hb : (gapN cm (s[q]'(by omega)) || blankB (bInt (s[q]'(by omega)))) = true := by
    cases hx : (gapN cm (s[q]'(by omega)) || blankB (bInt (s[q]'(by omega)))) with
    | true => rfl
    | false => rw [hx] at hw; cases hw
  refine ⟨hb, ?_⟩
  rw [take_split h1, gapF_app, hg, e1]
  show gapF cm [s[q]'(by omega)] = _
  rw [gapF_cons, hb, if_pos rfl]
  rfl

set_option maxHeartbeats 8000000 in
set_option maxRecDepth 100000 in
theorem law_covers (w : World) (s : ByteArray) (hs : s.size ≤ 9223372036854775807) (hw : Wd w) : Calls Tryd.prog 8 #[.string s] w (YesP w) := by
  have HW := Lib.hid hw
  clear hw
  have hsl : s.data.toList.length = s.size := by simp
  by_cases hl : (2000 : Int) < (s.size : Int)
  focus
    have t1 : decide ((2000 : Int) < (s.size : Int)) = true := by simpa using hl
    clear hsl
    go_enter Tryd.func8, Tryd.ntmps8
    go_wp2_with fail
    refine (awake_any w HW.out).mono ?_
    rintro e w1 ⟨rfl, hb⟩
    go_wp2_with fail
    go_ret
    exact ⟨rfl, hb⟩
  have t1 : decide ((2000 : Int) < (s.size : Int)) = false := by simpa using hl
  cases hx : lexF s.data.toList with
  | err p x =>
    have P := Lib.hid (lexN_any hs hx)
    have hz : x ≠ 0 := lexF_nz hx
    have t2 : (x == 0) = false := beq_eq_false_iff_ne.2 hz
    have t3 : (x != 0) = true := bne_iff_ne.2 hz
    clear hx hsl hz
    go_enter Tryd.func8, Tryd.ntmps8
    go_wp2_with fail
    refine (P.out w HW.out).mono ?_
    rintro e w1 ⟨rfl, hb⟩
    have HB1 := Lib.hid hb
    have HW1 := Lib.hid (HW.out.b hb)
    clear hb
    go_wp2_with fail
    refine (awake_any w1 HW1.out).mono ?_
    rintro e w4 ⟨rfl, hb⟩
    have HB4 := Lib.hid (HB1.out.trans (hb.mono HB1.out.size))
    clear hb
    go_wp2_with fail
    go_ret
    exact ⟨rfl, HB4.out⟩
  | ok l =>
    have hln0 := (lexF_wf hx).choose_spec.2.2.2
    have hpos0 : 0 < l.length := by have := (lexF_wf hx).choose_spec.1; rw [this]; simp
    have hln : (l.length : Int) ≤ 1000000000 := by omega
    have hposI : (0 : Int) < (l.length : Int) := by omega
    have P := Lib.hid (lexO_any hs hx)
    have HC := Lib.hid (lexF_cov hx)
    have HSL := Lib.hid hsl
    clear hx hln0 hsl
    go_enter Tryd.func8, Tryd.ntmps8
    go_wp2_with fail
    refine (P.out w HW.out).mono ?_
    rintro e w1 ⟨g, cap, rfl, hb, htk⟩
    have HB1 := Lib.hid hb
    have HW1 := Lib.hid (HW.out.b hb)
    have HT1 := Lib.hid htk
    clear hb htk
    go_wp2_with fail
    go_loopw [6, 7] (fun en i wr => ∃ k e : Nat, k ≤ l.length ∧ i = .int .i64 k ∧ en = .int .i64 e ∧ e ≤ s.size ∧ Hid (Below w1.heap.size w1 wr ∧ CovF s.data.toList e (l.drop k))) (fun _ i _ => l.length - (intOf i).toNat)
    case atStart => exact ⟨0, 0, Nat.zero_le _, rfl, rfl, Nat.zero_le _, Below.refl _ _, HC.out⟩
    case round =>
      obtain ⟨k, e, hk, rfl, rfl, hes, HI⟩ := hrel
      by_cases hlk : k < l.length
      rotate_left
      focus
        have he : e = s.size := by
          have h := HI.out.2
          rw [List.drop_eq_nil_of_le (by omega)] at h
          have h2 : e = s.data.toList.length := h
          rw [h2, HSL.out]
        subst he
        have HBQ := Lib.hid HI.out.1
        clear HI
        go_wp2_with fail
        refine (awake_any wr (HW1.out.b HBQ.out)).mono ?_
        rintro e w4 ⟨rfl, hb⟩
        have HB4 := Lib.hid ((HB1.out.trans (HBQ.out.mono HB1.out.size)).trans (hb.mono (Nat.le_trans HB1.out.size HBQ.out.size)))
        clear hb
        go_wp2_with fail
        go_ret
        exact ⟨rfl, HB4.out⟩
      obtain ⟨b, o, kd, tx, ps, hA, hbl, hlf, p0, p1, p2⟩ := (HT1.out.keep HI.out.1).at k hlk
      simp only [Option.some.injEq, Addr.mk.injEq, and_true] at hA
      obtain ⟨rfl, rfl⟩ := hA
      obtain ⟨c1, c2, c3, c4, c5⟩ := cov_at hlk HI.out.2 hlf
      rw [HSL.out] at c2
      have hsz : (bs tx).size = tx.length := size_bs tx
      have t4 : decide ((ps : Int) < (e : Int)) = false := by simp; omega
      have t5 : decide ((s.size : Int) < (ps : Int)) = false := by simp; omega
      have t4' : decide (ps < e) = false := by simp; omega
      have t5' : decide (s.size < ps) = false := by simp; omega
      have t6 : decide ((s.size : Int) - (ps : Int) < ((bs tx).size : Int)) = false := by simp; omega
      have hex : s.extract ps (ps + tx.length) = bs tx := by rw [extract_bs, show ps + tx.length - ps = tx.length from by omega, c3]
      have hsub : ps + (bs tx).size ≤ s.size := by omega
      have hcast : ((ps : Int) + ((bs tx).size : Int)) = ((ps + tx.length : Nat) : Int) := by rw [hsz]; omega
      have HG := Lib.hid c4
      have HN := Lib.hid c5
      have hsubI : (ps : Int) + ((bs tx).size : Int) ≤ (s.size : Int) := by omega
      clear hlf c3 c4 c5 p0
      simp only [Nat.zero_add] at p1 p2
      have HSZ := Lib.hid hsz
      rw [← hsz] at hex
      clear hsz
      generalize bs tx = bt at *
      have hz0 : (0 : Int) ≤ (ps : Int) := by omega
      have hz1 : (ps : Int) ≤ (ps : Int) + (bt.size : Int) := by omega
      have hz2 : (0 : Int) ≤ (ps : Int) + (bt.size : Int) := by omega
      have hlI : (k : Int) < (l.length : Int) := by omega
      have w1' : IntKind.i64.wrap ((s.size : Int) - (ps : Int)) = (s.size : Int) - (ps : Int) := IntWalk.i64_in _ (by omega)
      have w2' : IntKind.i64.wrap ((ps : Int) + (bt.size : Int)) = (ps : Int) + (bt.size : Int) := IntWalk.i64_in _ (by omega)
      have w3' : ((ps : Int) + (bt.size : Int)).toNat = ps + bt.size := by omega
      clear hcast
      go_wp2_with fail
      go_quiet (fail)
      go_wp2_with fail
      clear p2 w1' w2' w3' t4 t5 t4' t5' t6 hex hz0 hz1 hz2
      have hlen := HSL.out
      have HLEN := Lib.hid hlen
      clear hlen
      go_loop [9, 10] (fun cv qv => ∃ (q : Nat) (cm : Bool), e ≤ q ∧ q ≤ ps ∧ qv = .int .i64 q ∧ cv = .bool cm ∧ Hid (gapF false ((s.data.toList.drop e).take (q - e)) = some cm)) (fun _ qv => ps - (intOf qv).toNat)
      case atStart => exact ⟨e, false, Nat.le_refl _, c1, rfl, rfl, by unfold Hid; simp [gapF]⟩
      case round =>
        obtain ⟨q, cm, hq1, hq2, rfl, rfl, HQ⟩ := hrel
        by_cases hqp : q < ps
        rotate_left
        focus
          obtain rfl : q = ps := by omega
          have HBN := Lib.hid (below_drewN HI.out.1 nq)
          have HSZ2 := Lib.hid HSZ.out
          go_wp2_with fail
          go_roundw
          case rel => exact ⟨k + 1, q + bt.size, by omega, by go_num, by go_num, by omega, HBN.out, by have h := HN.out; rw [← HSZ.out] at h; exact h⟩
          case measure => simp [intOf]; omega
        have hqs : q < s.size := by omega
        have hqsI : (q : Int) < (s.size : Int) := by omega
        have hstep := gap_step (s := s.data.toList) hq1 hqp (by rw [HLEN.out]; omega) HQ.out HG.out
        have hget : s.data.toList[q]'(by rw [HLEN.out]; exact hqs) = s[q] := rfl
        rw [hget] at hstep
        obtain ⟨hs1, hs2⟩ := hstep
        have HN2 := Lib.hid hs2
        clear hs2 hget
        cases h35 : (bInt s[q] == 35) with
        | true =>
          have hgn : gapN cm s[q] = true := by unfold gapN; rw [h35]; rfl
          rw [hgn] at HN2
          have f35 : ((s[q].toNat : Int) == 35) = true := h35
          clear hs1 hgn h35
          go_wp2_with fail
          go_round
          case rel => exact ⟨q + 1, true, by omega, by omega, by go_num, rfl, HN2⟩
          case measure => simp [intOf]; omega
        | false =>
          have f35 : ((s[q].toNat : Int) == 35) = false := h35
          cases cm with
          | true =>
            cases h10 : (bInt s[q] == 10) with
            | false =>
              have hgn : gapN true s[q] = true := by unfold gapN; rw [h35]; simp [bne, h10]
              rw [hgn] at HN2
              have f10 : ((s[q].toNat : Int) != 10) = true := by show (bInt s[q] != 10) = true; simp [bne, h10]
              clear hs1 hgn h35 h10
              go_wp2_with fail
              go_round
              case rel => exact ⟨q + 1, true, by omega, by omega, by go_num, rfl, HN2⟩
              case measure => simp [intOf]; omega
            | true =>
              have hgn : gapN true s[q] = false := by unfold gapN; rw [h35]; simp [bne, h10]
              rw [hgn, Bool.false_or] at hs1
              rw [hgn] at HN2
              have f10 : ((s[q].toNat : Int) != 10) = false := by show (bInt s[q] != 10) = false; simp [bne, h10]
              have RB := Lib.hid (fun w => rBlank_is (c := (s[q].toNat : Int)) (b := true) hs1 w)
              clear hs1 hgn h35 h10
              go_wp2_with fail
              refine (RB.out _).mono ?_
              rintro e9 w9 ⟨rfl, rfl⟩
              go_wp2_with fail
              go_round
              case rel => exact ⟨q + 1, false, by omega, by omega, by go_num, rfl, HN2⟩
              case measure => simp [intOf]; omega
          | false =>
            have hgn : gapN false s[q] = false := by unfold gapN; rw [h35]; rfl
            rw [hgn, Bool.false_or] at hs1
            rw [hgn] at HN2
            have RB := Lib.hid (fun w => rBlank_is (c := (s[q].toNat : Int)) (b := true) hs1 w)
            clear hs1 hgn h35
            go_wp2_with fail
            refine (RB.out _).mono ?_
            rintro e9 w9 ⟨rfl, rfl⟩
            go_wp2_with fail
            go_round
            case rel => exact ⟨q + 1, false, by omega, by omega, by go_num, rfl, HN2⟩
            case measure => simp [intOf]; omega
end Go.Proofs.YtmpdnmnimdkfnaaDoor
