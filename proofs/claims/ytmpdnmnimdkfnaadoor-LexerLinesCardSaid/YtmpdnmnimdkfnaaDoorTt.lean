/- The walk of the law LexerLines. -/
import Derived.Test.YtmpdnmnimdkfnaaDoorTq
import Derived.Test.YtmpdnmnimdkfnaaDoorLp
import Derived.Test.YtmpdnmnimdkfnaaDoorTm
namespace Go.Proofs.YtmpdnmnimdkfnaaDoor
open Go Go.RowKit Go.Shelf
set_option linter.unusedSimpArgs false

theorem lines_toks {a b : List UInt8} {ls ms : List Tok} (ha : lexF a = .ok ls) (hb : lexF b = .ok ms) (hl : a.length + 1 + b.length ≤ 16384) :
    ∃ ns, lexF (a ++ 10 :: b) = .ok ns ∧ 1 ≤ ls.length ∧ ns.length + 1 = ls.length + ms.length ∧ (∀ k, k + 1 < ls.length → ns[k]? = ls[k]?) ∧ ∀ j, ns[ls.length - 1 + j]? = (ms[j]?).map (shiftT (a.length + 1)) := by
  obtain ⟨_, l0, rfl, _, h⟩ := lexF_ok ha
  have h1 := h b hl
  rw [hb] at h1
  refine ⟨_, h1, by simp, by simp; omega, fun k hk => ?_, fun j => ?_⟩
  · simp only [List.length_append, List.length_cons, List.length_nil] at hk
    rw [List.getElem?_append_left (by omega), List.getElem?_append_left (by omega)]
  · simp only [List.length_append, List.length_cons, List.length_nil]
    rw [List.getElem?_append_right (by omega), show l0.length + (0 + 1) - 1 + j - l0.length = j from by omega, List.getElem?_map]

set_option maxHeartbeats 8000000 in
set_option maxRecDepth 100000 in
theorem law_lines (w : World) (a b : ByteArray) (ha : a.size ≤ 9223372036854775807) (hb : b.size ≤ 9223372036854775807) (hw : Wd w) : Calls Tryd.prog 9 #[.string a, .string b] w (YesP w) := by
  have HW := Lib.hid hw
  clear hw
  have hla : a.data.toList.length = a.size := by simp
  have hlb : b.data.toList.length = b.size := by simp
  by_cases h1 : (1000 : Int) < (a.size : Int)
  focus
    have t1 : decide ((1000 : Int) < (a.size : Int)) = true := by simpa using h1
    clear hla hlb
    go_enter Tryd.func9, Tryd.ntmps9
    go_wp2_with fail
    refine (awake_any w HW.out).mono ?_
    rintro e w1 ⟨rfl, hb⟩
    go_wp2_with fail
    go_ret
    exact ⟨rfl, hb⟩
  have t1 : decide ((1000 : Int) < (a.size : Int)) = false := by simpa using h1
  by_cases h2 : (1000 : Int) < (b.size : Int)
  focus
    have t2 : decide ((1000 : Int) < (b.size : Int)) = true := by simpa using h2
    clear hla hlb
    go_enter Tryd.func9, Tryd.ntmps9
    go_wp2_with fail
    refine (awake_any w HW.out).mono ?_
    rintro e w1 ⟨rfl, hb⟩
    go_wp2_with fail
    go_ret
    exact ⟨rfl, hb⟩
  have t2 : decide ((1000 : Int) < (b.size : Int)) = false := by simpa using h2
  cases hx : lexF a.data.toList with
  | err p x =>
    have P := Lib.hid (lexN_any ha hx)
    have hz : x ≠ 0 := lexF_nz hx
    have t3 : (x == 0) = false := beq_eq_false_iff_ne.2 hz
    have t4 : (x != 0) = true := bne_iff_ne.2 hz
    clear hx hla hlb hz
    cases hy : lexF b.data.toList with
    | err q y =>
      have P2 := Lib.hid (lexN_any hb hy)
      clear hy
      go_enter Tryd.func9, Tryd.ntmps9
      go_wp2_with fail
      refine (P.out w HW.out).mono ?_
      rintro e w1 ⟨rfl, hb⟩
      have HB1 := Lib.hid hb
      have HW1 := Lib.hid (HW.out.b hb)
      clear hb
      go_wp2_with fail
      refine (P2.out w1 HW1.out).mono ?_
      rintro e w2 ⟨rfl, hb⟩
      have HB2 := Lib.hid (HB1.out.trans (hb.mono HB1.out.size))
      have HW2 := Lib.hid (HW1.out.b hb)
      clear hb
      go_wp2_with fail
      refine (awake_any w2 HW2.out).mono ?_
      rintro e w4 ⟨rfl, hb⟩
      have HB4 := Lib.hid (HB2.out.trans (hb.mono HB2.out.size))
      clear hb
      go_wp2_with fail
      go_ret
      exact ⟨rfl, HB4.out⟩
    | ok m =>
      have P2 := Lib.hid (lexO_any hb hy)
      clear hy
      go_enter Tryd.func9, Tryd.ntmps9
      go_wp2_with fail
      refine (P.out w HW.out).mono ?_
      rintro e w1 ⟨rfl, hb⟩
      have HB1 := Lib.hid hb
      have HW1 := Lib.hid (HW.out.b hb)
      clear hb
      go_wp2_with fail
      refine (P2.out w1 HW1.out).mono ?_
      rintro e w2 ⟨g, cap, rfl, hb, _⟩
      have HB2 := Lib.hid (HB1.out.trans (hb.mono HB1.out.size))
      have HW2 := Lib.hid (HW1.out.b hb)
      clear hb
      go_wp2_with fail
      refine (awake_any w2 HW2.out).mono ?_
      rintro e w4 ⟨rfl, hb⟩
      have HB4 := Lib.hid (HB2.out.trans (hb.mono HB2.out.size))
      clear hb
      go_wp2_with fail
      go_ret
      exact ⟨rfl, HB4.out⟩
  | ok l =>
    have P := Lib.hid (lexO_any ha hx)
    cases hy : lexF b.data.toList with
    | err q y =>
      have P2 := Lib.hid (lexN_any hb hy)
      have hz : y ≠ 0 := lexF_nz hy
      have t3 : (y == 0) = false := beq_eq_false_iff_ne.2 hz
      have t4 : (y != 0) = true := bne_iff_ne.2 hz
      clear hx hy hla hlb hz
      go_enter Tryd.func9, Tryd.ntmps9
      go_wp2_with fail
      refine (P.out w HW.out).mono ?_
      rintro e w1 ⟨g, cap, rfl, hb, _⟩
      have HB1 := Lib.hid hb
      have HW1 := Lib.hid (HW.out.b hb)
      clear hb
      go_wp2_with fail
      refine (P2.out w1 HW1.out).mono ?_
      rintro e w2 ⟨rfl, hb⟩
      have HB2 := Lib.hid (HB1.out.trans (hb.mono HB1.out.size))
      have HW2 := Lib.hid (HW1.out.b hb)
      clear hb
      go_wp2_with fail
      refine (awake_any w2 HW2.out).mono ?_
      rintro e w4 ⟨rfl, hb⟩
      have HB4 := Lib.hid (HB2.out.trans (hb.mono HB2.out.size))
      clear hb
      go_wp2_with fail
      go_ret
      exact ⟨rfl, HB4.out⟩
    | ok m =>
      have P2 := Lib.hid (lexO_any hb hy)
      obtain ⟨n, hn, hl1, hlen, hA, hB⟩ := lines_toks hx hy (by omega)
      have hcs : (a ++ ⟨#[10]⟩ ++ b).data.toList = a.data.toList ++ 10 :: b.data.toList := by rw [ByteArray.data_append, ByteArray.data_append]; simp
      have hadd1 : ∀ y : World, (Op.stringOp .add a ⟨#[10]⟩).run Tryd.prog y = .ok (.string (a ++ ⟨#[10]⟩)) y := fun y => str_add (by show a.size + 1 ≤ _; unfold maxLen; omega)
      have hadd2 : ∀ y : World, (Op.stringOp .add (a ++ ⟨#[10]⟩) b).run Tryd.prog y = .ok (.string (a ++ ⟨#[10]⟩ ++ b)) y := fun y => str_add (by rw [ByteArray.size_append]; show a.size + 1 + b.size ≤ _; unfold maxLen; omega)
      have P3 := Lib.hid (lexO_any (s := a ++ ⟨#[10]⟩ ++ b) (by rw [ByteArray.size_append, ByteArray.size_append]; show a.size + 1 + b.size ≤ _; omega) (by rw [hcs]; exact hn))
      have bl := (lexF_wf hx).choose_spec.2.2.2
      have bm := (lexF_wf hy).choose_spec.2.2.2
      have HA := Lib.hid hA
      have HB := Lib.hid hB
      have HLN := Lib.hid hlen
      have hlI : (l.length : Int) ≤ 2000 := by omega
      have hmI : (m.length : Int) ≤ 2000 := by omega
      have hnI : (n.length : Int) ≤ 4000 := by omega
      have hl1I : (1 : Int) ≤ (l.length : Int) := by omega
      have t3 : ((l.length : Int) == 0) = false := beq_eq_false_iff_ne.2 (by omega)
      have t3' : (l.length == 0) = false := beq_eq_false_iff_ne.2 (by omega)
      have t4 : ((n.length : Int) != (l.length : Int) - 1 + (m.length : Int)) = false := by rw [bne_eq_false_iff_eq]; omega
      have hsz : (a.size : Int) ≤ 1000 := by omega
      have HLA := Lib.hid hla
      have HPS := Lib.hid (lexF_pos hy)
      generalize a ++ ⟨#[10]⟩ ++ b = c at *
      generalize a ++ ⟨#[10]⟩ = c0 at *
      have hlb2 : b.data.toList.length ≤ 1000 := by omega
      clear hx hy hn hlen hA hB hcs bl bm hla hlb
      go_enter Tryd.func9, Tryd.ntmps9
      go_wp2_with fail
      refine (P.out w HW.out).mono ?_
      rintro e w1 ⟨g, cap, rfl, hb, htk⟩
      have HB1 := Lib.hid hb
      have HW1 := Lib.hid (HW.out.b hb)
      have HT1 := Lib.hid htk
      clear hb htk
      go_wp2_with fail
      refine (P2.out w1 HW1.out).mono ?_
      rintro e w2 ⟨g2, cap2, rfl, hb, htk⟩
      have HB2 := Lib.hid (HB1.out.trans (hb.mono HB1.out.size))
      have HW2 := Lib.hid (HW1.out.b hb)
      have HT2 := Lib.hid (HT1.out.keep hb)
      have HU2 := Lib.hid htk
      clear hb htk
      go_wp2_with fail
      refine (P3.out w2 HW2.out).mono ?_
      rintro e w3 ⟨g3, cap3, rfl, hb, htk⟩
      have HB3 := Lib.hid (HB2.out.trans (hb.mono HB2.out.size))
      have HW3 := Lib.hid (HW2.out.b hb)
      have HT3 := Lib.hid (HT2.out.keep hb)
      have HU3 := Lib.hid (HU2.out.keep hb)
      have HV3 := Lib.hid htk
      clear hb htk
      go_wp2_with fail
      go_loopw [14] (fun i wr => ∃ k : Nat, k ≤ n.length ∧ i = .int .i64 k ∧ Hid (Below w3.heap.size w3 wr)) (fun i _ => n.length - (intOf i).toNat)
      case atStart => exact ⟨0, Nat.zero_le _, rfl, Below.refl _ _⟩
      case round =>
        obtain ⟨k, hk, rfl, HI⟩ := hrel
        by_cases hlk : k < n.length
        rotate_left
        focus
          go_wp2_with fail
          refine (awake_any wr (HW3.out.b HI.out)).mono ?_
          rintro e w4 ⟨rfl, hb⟩
          have HB4 := Lib.hid ((HB3.out.trans (HI.out.mono HB3.out.size)).trans (hb.mono (Nat.le_trans HB3.out.size HI.out.size)))
          clear hb
          go_wp2_with fail
          go_ret
          exact ⟨rfl, HB4.out⟩
        obtain ⟨b1, o1, kd, tx, ps, hA1, hbl1, hlf1, p0, p1, p2⟩ := (HV3.out.keep HI.out).at k hlk
        simp only [Option.some.injEq, Addr.mk.injEq, and_true] at hA1
        obtain ⟨rfl, rfl⟩ := hA1
        by_cases hkl : k + 1 < l.length
        focus
          have hkl2 : k < l.length := by omega
          obtain ⟨b2, o2, kd2, tx2, ps2, hA2, hbl2, hlf2, q0, q1, q2⟩ := (HT3.out.keep HI.out).at k hkl2
          simp only [Option.some.injEq, Addr.mk.injEq, and_true] at hA2
          obtain ⟨rfl, rfl⟩ := hA2
          have he : l[k] = n[k] := by
            have h := HA.out k hkl
            rw [List.getElem?_eq_getElem hlk, List.getElem?_eq_getElem hkl2] at h
            exact (Option.some.inj h).symm
          rw [hlf1, hlf2] at he
          simp only [Tok.mk.injEq] at he
          obtain ⟨rfl, rfl, rfl⟩ := he
          have t5 : decide ((k : Int) < (l.length : Int) - 1) = true := by simp; omega
          clear hlf1 hlf2 hkl
          simp only [Nat.zero_add] at p0 p1 p2 q0 q1 q2
          generalize bs tx2 = bt at *
          have HAL := Lib.hid (HI.out.alloc HI.out.size (.cells #[.int .i64 kd2, .string bt, .int .i64 ps2] 30))
          go_wp2_with fail
          go_quiet (fail)
          clear p0 p1 p2 q0 q1 q2
          go_wp2_with fail
          go_roundw
          case rel => exact ⟨k + 1, by omega, by go_num, below_drewN HAL.out nq⟩
          case measure => simp [intOf]; omega
        focus
          obtain ⟨j, hj⟩ : ∃ j : Nat, k + 1 = l.length + j := ⟨k + 1 - l.length, by omega⟩
          have hjm : j < m.length := by have := HLN.out; omega
          obtain ⟨b2, o2, kd2, tx2, ps2, hA2, hbl2, hlf2, q0, q1, q2⟩ := (HU3.out.keep HI.out).at j hjm
          simp only [Option.some.injEq, Addr.mk.injEq, and_true] at hA2
          obtain ⟨rfl, rfl⟩ := hA2
          have he : n[k] = shiftT (a.data.toList.length + 1) m[j] := by
            have h := HB.out j
            rw [show l.length - 1 + j = k from by omega, List.getElem?_eq_getElem hlk, List.getElem?_eq_getElem hjm] at h
            exact Option.some.inj h
          rw [hlf1, hlf2, HLA.out] at he
          simp only [shiftT, Tok.mk.injEq] at he
          obtain ⟨rfl, rfl, rfl⟩ := he
          have t5 : decide ((k : Int) < (l.length : Int) - 1) = false := by simp; omega
          have hix : (k : Int) - (l.length : Int) + 1 = (j : Int) := by omega
          have hix2 : (j : Int) < (m.length : Int) := by omega
          have hps : (ps2 : Int) ≤ 100000 := by have := HPS.out j _ (List.getElem?_eq_getElem hjm); rw [hlf2] at this; simp only at this; omega
          clear hlf1 hlf2 hkl hj
          simp only [Nat.zero_add] at p0 p1 p2 q0 q1 q2
          have p2' : wr.cell? ⟨g3, k * 3 + 2, none⟩ = some (.int .i64 ((ps2 : Int) + (a.size : Int) + 1)) := by rw [p2, show ((ps2 + (a.size + 1) : Nat) : Int) = (ps2 : Int) + (a.size : Int) + 1 from by omega]
          clear p2
          generalize bs tx = bt at *
          have HAL := Lib.hid (HI.out.alloc HI.out.size (.cells #[.int .i64 kd, .string bt, .int .i64 ((ps2 : Int) + (a.size : Int) + 1)] 30))
          go_wp2_with fail
          go_quiet (fail)
          clear p0 p1 p2' q0 q1 q2
          go_wp2_with fail
          go_roundw
          case rel => exact ⟨k + 1, by omega, by go_num, below_drewN HAL.out nq⟩
          case measure => simp [intOf]; omega
end Go.Proofs.YtmpdnmnimdkfnaaDoor
