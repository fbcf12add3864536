/- Merged texts: The reference's clock and words. The reference's Items and terms. The reference's terms and guess. The reference's Decode. -/
import Derived.Test.YtmplpbdldcokjaaGreatDoorQv
import Derived.Test.YtmplpbdldcokjaaGreatDoorX6
import Derived.Test.YtmplpbdldcokjaaGreatDoorWp
import Derived.Test.YtmplpbdldcokjaaGreatDoorHd
import Derived.Test.YtmplpbdldcokjaaGreatDoorX7
import Derived.Test.YtmplpbdldcokjaaGreatDoorQy
namespace Go.Proofs.YtmplpbdldcokjaaGreatDoor
/- The reference's clock and words. -/
section
open Go Go.RowKit Go.Shelf
set_option linter.unusedSimpArgs false
set_option linter.unusedVariables false

theorem drop_at2 (s : ByteArray) (k : Nat) (h : k < s.size) : s.data.toList.drop k = s[k] :: s.data.toList.drop (k + 1) := drop_at s k h
theorem clk_step (n : Int) (c : UInt8) (r : List UInt8) (h : digitB (bInt c) = true) : clkGo n (c :: r) = clkGo (10 * n + (bInt c - 48)) r := by rw [clkGo, if_pos h]
theorem clk_stop (n : Int) (c : UInt8) (r : List UInt8) (h : digitB (bInt c) = false) : clkGo n (c :: r) = 0 := by rw [clkGo, if_neg (by rw [h]; decide)]
theorem pow9 {k : Nat} (h : k ≤ 9) : 10 ^ k ≤ 1000000000 := Nat.pow_le_pow_right (n := 10) (by decide) h
set_option maxHeartbeats 4000000 in
set_option maxRecDepth 100000 in
theorem rclock_any (w : World) (s : ByteArray) (hl : s.size ≤ 9223372036854775807) : Calls Tryz.prog 72 #[.string s] w (OutB w (.int .i64 (clkF s.data.toList))) := by
  have hlen : s.data.toList.length = s.size := by simp
  by_cases h1 : s.size < 1
  · have e1 : decide ((s.size : Int) < 1) = true := decide_eq_true (by omega)
    have HC : Hid (clkF s.data.toList = 0) := by unfold clkF; rw [Hid, if_pos (by omega)]
    clear hlen
    go_enter Tryz.func72, Tryz.ntmps72
    go_wp2_with fail
    go_ret
    exact ⟨by rw [HC.out]; rfl, Below.refl _ _⟩
  have e1 : decide ((s.size : Int) < 1) = false := decide_eq_false (by omega)
  by_cases h9 : 9 < s.size
  · have e2 : decide ((9 : Int) < (s.size : Int)) = true := decide_eq_true (by omega)
    have HC : Hid (clkF s.data.toList = 0) := by unfold clkF; rw [Hid, if_pos (by omega)]
    clear hlen
    go_enter Tryz.func72, Tryz.ntmps72
    go_wp2_with fail
    go_ret
    exact ⟨by rw [HC.out]; rfl, Below.refl _ _⟩
  have e2 : decide ((9 : Int) < (s.size : Int)) = false := decide_eq_false (by omega)
  have HC : Hid (clkF s.data.toList = clkGo 0 s.data.toList) := by unfold clkF; rw [Hid, if_neg (by omega)]
  clear hlen
  go_enter Tryz.func72, Tryz.ntmps72
  go_wp2_with fail
  clear e1 e2
  go_loopw [3, 4] (fun n i wr => ∃ (k : Nat) (m : Int), k ≤ s.size ∧ i = .int .i64 k ∧ n = .int .i64 m ∧ Hid (0 ≤ m ∧ m + 1 ≤ ((10 ^ k : Nat) : Int)) ∧ Hid (clkGo 0 s.data.toList = clkGo m (s.data.toList.drop k) ∧ Below w.heap.size w wr)) (fun _ i _ => s.size - (intOf i).toNat)
  case atStart => exact ⟨0, 0, Nat.zero_le _, rfl, rfl, ⟨by decide, by decide⟩, by rw [List.drop_zero], Below.refl _ _⟩
  case round =>
    obtain ⟨k, m, hk, rfl, rfl, HB, HX⟩ := hrel
    by_cases hlk : k < s.size
    rotate_left
    focus
      obtain rfl : k = s.size := by omega
      have HF : Hid (clkF s.data.toList = m) := by
        rw [Hid, HC.out, HX.out.1, List.drop_of_length_le (by simp), clkGo]
      go_wp2_with fail
      go_ret
      exact ⟨by rw [HF.out]; rfl, HX.out.2⟩
    have HS := Lib.hid HX.out.1
    rw [drop_at2 s k hlk] at HS
    have h256 : s[k].toNat < 256 := s[k].toNat_lt
    have hm0 : 0 ≤ m := HB.out.1
    have hm1 : m < 1000000000 := by
      have := HB.out.2
      have := pow9 (show k ≤ 9 by omega)
      omega
    have hbi : bInt s[k] = (s[k].toNat : Int) := rfl
    by_cases hd1 : s[k].toNat < 48
    focus
      have t1 : decide ((s[k].toNat : Int) < 48) = true := decide_eq_true (by omega)
      rw [clk_stop _ _ _ (by rw [Bool.eq_false_iff]; intro h; rw [digitB_iff] at h; omega)] at HS
      have HF : Hid (clkF s.data.toList = 0) := by rw [Hid, HC.out, HS.out]
      clear hbi
      go_wp2_with fail
      go_ret
      exact ⟨by rw [HF.out]; rfl, HX.out.2⟩
    have t1 : decide ((s[k].toNat : Int) < 48) = false := decide_eq_false (by omega)
    by_cases hd2 : 57 < s[k].toNat
    focus
      have t2 : decide ((57 : Int) < (s[k].toNat : Int)) = true := decide_eq_true (by omega)
      rw [clk_stop _ _ _ (by rw [Bool.eq_false_iff]; intro h; rw [digitB_iff] at h; omega)] at HS
      have HF : Hid (clkF s.data.toList = 0) := by rw [Hid, HC.out, HS.out]
      clear hbi
      go_wp2_with fail
      go_ret
      exact ⟨by rw [HF.out]; rfl, HX.out.2⟩
    have t2 : decide ((57 : Int) < (s[k].toNat : Int)) = false := decide_eq_false (by omega)
    rw [clk_step _ _ _ (by rw [digitB_iff]; omega), hbi] at HS
    have hw1 : IntKind.u8.wrap ((s[k].toNat : Int) - 48) = (s[k].toNat : Int) - 48 := by rw [IntKind.wrap_u8]; omega
    have hw2 : IntKind.i64.wrap (10 * m) = 10 * m := by rw [IntKind.wrap_i64]; omega
    have hw3 : IntKind.i64.wrap ((s[k].toNat : Int) - 48) = (s[k].toNat : Int) - 48 := by rw [IntKind.wrap_i64]; omega
    have hw4 : IntKind.i64.wrap (10 * m + ((s[k].toNat : Int) - 48)) = 10 * m + ((s[k].toNat : Int) - 48) := by rw [IntKind.wrap_i64]; omega
    have HN : Hid (0 ≤ 10 * m + ((s[k].toNat : Int) - 48) ∧ 10 * m + ((s[k].toNat : Int) - 48) + 1 ≤ ((10 ^ (k + 1) : Nat) : Int)) := by
      have := HB.out.2
      rw [Hid, Nat.pow_succ]
      omega
    clear hbi
    go_wp2_with fail
    go_roundw
    case rel => exact ⟨k + 1, 10 * m + ((s[k].toNat : Int) - 48), by omega, by go_num, by first | rfl | go_num, HN.out, HS.out, HX.out.2⟩
    case measure => simp [intOf]; omega

def rowS (l : List (List UInt8)) : List Value := l.map fun x => Value.string (bs x)
theorem rowS_get (pre : List (List UInt8)) (x : List UInt8) : (rowS (pre ++ [x]))[pre.length]? = some (.string (bs x)) := by unfold rowS; simp
theorem rowS_set (pre : List (List UInt8)) (x y : List UInt8) : (rowS (pre ++ [x])).set pre.length (.string (bs y)) = rowS (pre ++ [y]) := by
  unfold rowS
  rw [List.map_append, List.map_append, List.set_append_right _ _ (by simp)]
  simp
theorem words_sp (r : List UInt8) (c : UInt8) (h : bInt c = 32) : wordsF (c :: r) = [] :: wordsF r := by
  have : c = 32 := by
    apply UInt8.toNat_inj.1
    unfold bInt at h
    have e : (32 : UInt8).toNat = 32 := rfl
    omega
  rw [wordsF, if_pos (by rw [this]; rfl)]
theorem words_ch (r : List UInt8) (c : UInt8) (h : bInt c ≠ 32) : wordsF (c :: r) = preP [c] (wordsF r) := by
  rw [wordsF, if_neg]
  intro e
  rw [beq_iff_eq] at e
  subst e
  exact h rfl
/-- what words returns -/
def WdP (w : World) (l : List (List UInt8)) (e : Ending) (w' : World) : Prop := Below w.heap.size w w' ∧ ∃ g cap, e = .returned (.slice (some ⟨g, 0, none⟩) l.length cap) ∧ w.heap.size ≤ g ∧ g < w'.heap.size ∧ StrAt w' g 0 l
set_option maxHeartbeats 8000000 in
set_option maxRecDepth 100000 in
theorem rwords_any (w : World) (s : ByteArray) (hl : s.size ≤ 100000000) : Calls Tryz.prog 53 #[.string s] w (WdP w (wordsF s.data.toList)) := by
  obtain ⟨i0, hi0, hz0, hz1, hz2⟩ := info_parts infoStr
  have HI0 := Lib.hid hi0
  have HZ0 := Lib.hid hz0
  have HZ1 := Lib.hid hz1
  have HZ2 := Lib.hid hz2
  clear hi0 hz0 hz1 hz2
  have HO0 := Lib.hid (World.ownsRow_lit (base := w.heap.size) (e := 9) (size := 1) w #[.string ⟨#[]⟩] 1 (Nat.le_refl _) (by decide) rfl)
  have HB0 := Lib.hid (one_box w (.cells #[.string ⟨#[]⟩] 9)).1
  go_enter Tryz.func53, Tryz.ntmps53
  go_wp2_with fail
  go_loopw [3, 4] (fun v i wr => ∃ (k : Nat) (pre : List (List UInt8)) (x : List UInt8) (g cap : Nat), k ≤ s.size ∧ i = .int .i64 k ∧ v = .slice (some ⟨g, 0, none⟩) (pre.length + 1) cap ∧ pre.length + x.length ≤ k ∧ Hid (wr.ownsRow w.heap.size 9 1 (.slice (some ⟨g, 0, none⟩) (pre.length + 1) cap) (pre.length + 1) (rowS (pre ++ [x])) ∧ Below w.heap.size w wr ∧ wordsF s.data.toList = pre ++ preP x (wordsF (s.data.toList.drop k)))) (fun _ i _ => s.size - (intOf i).toNat)
  case atStart => exact ⟨0, [], [], w.heap.size, 1, Nat.zero_le _, rfl, rfl, by simp, HO0.out, HB0.out, by rw [List.drop_zero, preP_nil _ (wordsF_ne _)]; rfl⟩
  case round =>
    obtain ⟨k, pre, x, g, cap, hk, rfl, rfl, hpx, HX⟩ := hrel
    by_cases hlk : k < s.size
    rotate_left
    focus
      obtain rfl : k = s.size := by omega
      have HW : Hid (wordsF s.data.toList = pre ++ [x]) := by
        rw [Hid, HX.out.2.2, List.drop_of_length_le (by simp)]
        simp [wordsF, preP]
      have hlt := HX.out.1.lt g rfl
      have HL := Lib.hid hlt
      clear hlt
      go_wp2_with fail
      go_ret
      refine ⟨HX.out.2.1, g, cap, ?_, HL.out.1, HL.out.2, ?_⟩
      · rw [HW.out, List.length_append]; rfl
      · rw [HW.out]
        intro i y hy
        have hi : i < pre.length + 1 := by
          have := (List.getElem?_eq_some_iff.1 hy).1
          simpa using this
        rw [Nat.zero_add, HX.out.1.cellAt i (by omega)]
        unfold rowS
        rw [List.getElem?_map, hy]
        rfl
    have HS := Lib.hid HX.out.2.2
    rw [drop_at2 s k hlk] at HS
    by_cases h32 : (s[k].toNat : Int) = 32
    focus
      have t1 : ((s[k].toNat : Int) == 32) = true := by simpa using h32
      rw [words_sp _ _ h32, show preP x ([] :: wordsF (s.data.toList.drop (k + 1))) = x :: wordsF (s.data.toList.drop (k + 1)) from by simp [preP]] at HS
      have HO2 := Lib.hid (HX.out.1.alloc (.cells #[.string ⟨#[]⟩] 9))
      have HBA := Lib.hid (HX.out.2.1.alloc HX.out.2.1.size (.cells #[.string ⟨#[]⟩] 9))
      have hsz := HX.out.2.1.size
      clear h32
      generalize hn : pre.length + 1 = n at *
      go_wp2_with (at_builtin; refine wpList_append_own _ rfl _ _ 44 rfl w.heap.size 9 i0 (.string ⟨#[]⟩) 1 16 Tryz.underlying44 HI0.out HZ0.out HZ1.out HZ2.out rfl (by decide) _ _ _ rfl HO2.out ⟨wr.heap.size, 0, none⟩ 1 1 [.string ⟨#[]⟩] rfl rfl ?c1 ?c2 ?c3 ?c4 ?c5 ?_)
      try (case c1 =>
        intro j u hj
        match j, hj with
        | 0, hj => simp at hj; subst hj; simp [Addr.add])
      case c2 => first | rfl | (intro u hu; simp at hu; subst hu; rfl)
      case c3 => unfold maxLen; omega
      case c4 => omega
      case c5 => first | omega | (simp; omega)
      intro v' w3 hown' hgrow _
      obtain ⟨g', cap', rfl, _, _⟩ := hown'.form (by omega)
      have HO3 := Lib.hid hown'
      have HB3 := Lib.hid (HBA.out.grown hgrow (by simp; omega) (fun q hq => (HO2.out.lt q hq).1))
      clear hown' hgrow
      go_wp2_with fail
      go_roundw
      case measure => simp [intOf]; omega
      case rel =>
        refine ⟨k + 1, pre ++ [x], [], g', cap', by omega, by go_num, ?_, ?_, ?_, HB3.out, ?_⟩
        · rw [List.length_append, ← hn]; rfl
        · rw [List.length_append]; simp; omega
        · have h := HO3.out
          rw [← hn] at h
          have e : rowS (pre ++ [x] ++ [[]]) = rowS (pre ++ [x]) ++ [.string ⟨#[]⟩] := by unfold rowS; simp; rfl
          rw [e, List.length_append]
          exact h
        · rw [HS.out, preP_nil _ (wordsF_ne _)]; simp
    have t1 : ((s[k].toNat : Int) == 32) = false := by simpa using h32
    rw [words_ch _ _ h32, preP_preP _ _ _ (wordsF_ne _)] at HS
    have hc : wr.cell? ⟨g, pre.length, none⟩ = some (.string (bs x)) := (HX.out.1.cellAt pre.length (by omega)).trans (rowS_get pre x)
    have hf := HX.out.1.frozenAt pre.length
    have hst := HX.out.1.stored pre.length (.string (bs (x ++ [s[k]])))
    rw [rowS_set] at hst
    have HST := Lib.hid (And.intro hst.1.drew (HX.out.2.1.grown hst.2 HX.out.2.1.size (fun q hq => by injection hq with hq; subst hq; exact (HX.out.1.lt _ rfl).1)).drew)
    have hadd : ∀ y : World, (Op.stringOp .add (bs x) (s.extract k (k + 1))).run Tryz.prog y = .ok (.string (bs (x ++ [s[k]]))) y := fun y => by
      rw [ext_one s k hlk]
      exact str_add_c _ _ (by simp; omega)
    clear hst h32
    generalize hxs : bs (x ++ [s[k]]) = sx at *
    generalize hn : pre.length = n at *
    generalize bs x = sx0 at *
    have hw1 : IntKind.i64.wrap ((n : Int) + 1 - 1) = n := by rw [IntKind.wrap_i64]; omega
    have hw2 : IntKind.i64.wrap (n : Int) = n := by rw [IntKind.wrap_i64]; omega
    have hw3 : IntKind.i64.wrap ((k : Int) + 1) = (k : Int) + 1 := by rw [IntKind.wrap_i64]; omega
    have hn1 : ((k : Int) + 1).toNat = k + 1 := by omega
    have hl1 : (k : Int) + 1 ≤ (s.size : Int) := by omega
    have hl2 : (0 : Int) ≤ (k : Int) + 1 := by omega
    have hl3 : (k : Int) ≤ (k : Int) + 1 := by omega
    go_wp2_with fail
    go_region
    go_wp2_with fail
    go_roundw
    case measure => simp [intOf]; omega
    case rel =>
      refine ⟨k + 1, pre, x ++ [s[k]], g, cap, by omega, by go_num, by rw [hn], by simp; omega, ?_, HST.out.2, HS.out⟩
      rw [hn]
      exact HST.out.1

end
/- The reference's Items and terms. -/
section
open Go Go.RowKit Go.Shelf
set_option linter.unusedSimpArgs false
set_option linter.unusedVariables false

theorem ext_list (s : ByteArray) (a b : Nat) : (s.extract a b).data.toList = (s.data.toList.drop a).take (b - a) := by
  rw [ByteArray.data_extract, Array.toList_extract, List.extract_eq_take_drop]
theorem take_next (s : ByteArray) (frm pos : Nat) (h : pos < s.size) (hf : frm ≤ pos) : (s.data.toList.drop frm).take (pos + 1 - frm) = (s.data.toList.drop frm).take (pos - frm) ++ [s[pos]] := by
  have e : pos + 1 - frm = pos - frm + 1 := by omega
  have h2 : pos - frm < (s.data.toList.drop frm).length := by simp; omega
  rw [e, List.take_succ_eq_append_getElem h2]
  congr 2
  simp [show frm + (pos - frm) = pos by omega]
  rfl
theorem pie_end (x : List UInt8) : allO (preP x (piecesF [])) = (termO x).map fun t => [t] := by
  rw [piecesF, preP, List.append_nil, allO]
  cases termO x with
  | none => rfl
  | some t => rfl
theorem pie_sep (x r : List UInt8) (c d : UInt8) (hc : c = 44) (hd : d = 32) : allO (preP x (piecesF (c :: d :: r))) = match termO x with
    | none => none
    | some t => (allO (piecesF r)).map (t :: ·) := by
  subst hc hd
  rw [piecesF, if_pos (by decide), preP, List.append_nil, allO]
  cases termO x with
  | none => rfl
  | some t => cases allO (piecesF r) <;> rfl
theorem pie_ch (x r : List UInt8) (c : UInt8) (h : ¬ (c = 44 ∧ ∃ r2, r = 32 :: r2)) : allO (preP x (piecesF (c :: r))) = allO (preP (x ++ [c]) (piecesF r)) := by
  cases r with
  | nil => rw [piecesF, piecesF, preP, preP, List.append_nil]
  | cons d r =>
    rw [piecesF, if_neg, preP_preP _ _ _ (piecesF_ne _)]
    intro e
    rw [Bool.and_eq_true, beq_iff_eq, beq_iff_eq] at e
    exact h ⟨e.1, r, by rw [e.2]⟩
theorem u8_eq {c d : UInt8} (h : c.toNat = d.toNat) : c = d := UInt8.toNat_inj.1 h
/-- what Items returns -/
def ItP (w : World) (r : Option (List Tm)) (e : Ending) (w' : World) : Prop :=
  Below w.heap.size w w' ∧ match r with
  | none => e = .returned (.tuple #[.slice none 0 0, .bool false])
  | some l => ∃ A cp, e = .returned (.tuple #[.slice A l.length cp, .bool true]) ∧ SlV TmV 2 w' (fun b => w.heap.size ≤ b) A l
/-- where the loop of Items stands -/
def ItR (s : ByteArray) (frm pos : Nat) (acc : List Tm) : Prop :=
  (pos ≤ s.size ∧ frm ≤ pos ∧ allO (piecesF s.data.toList) = (allO (preP ((s.data.toList.drop frm).take (pos - frm)) (piecesF (s.data.toList.drop pos)))).map (acc ++ ·)) ∨
  (pos = s.size + 2 ∧ allO (piecesF s.data.toList) = some acc)
theorem itr_end {s : ByteArray} {frm pos : Nat} {acc : List Tm} (hp : pos = s.size) (hf : frm ≤ pos) (h : allO (piecesF s.data.toList) = (allO (preP ((s.data.toList.drop frm).take (pos - frm)) (piecesF (s.data.toList.drop pos)))).map (acc ++ ·)) :
    (termO ((s.data.toList.drop frm).take (pos - frm)) = none → allO (piecesF s.data.toList) = none) ∧
    (∀ t, termO ((s.data.toList.drop frm).take (pos - frm)) = some t → ItR s (pos + 2) (pos + 2) (acc ++ [t])) := by
  rw [show s.data.toList.drop pos = [] from List.drop_of_length_le (by simp; omega), pie_end] at h
  constructor
  · intro hn; rw [h, hn]; rfl
  · intro t ht; refine .inr ⟨by omega, ?_⟩; rw [h, ht]; rfl
theorem itr_sep {s : ByteArray} {frm pos : Nat} {acc : List Tm} (hp : pos + 1 < s.size) (h44 : s[pos] = 44) (h32 : s[pos + 1] = 32) (h : allO (piecesF s.data.toList) = (allO (preP ((s.data.toList.drop frm).take (pos - frm)) (piecesF (s.data.toList.drop pos)))).map (acc ++ ·)) :
    (termO ((s.data.toList.drop frm).take (pos - frm)) = none → allO (piecesF s.data.toList) = none) ∧
    (∀ t, termO ((s.data.toList.drop frm).take (pos - frm)) = some t → ItR s (pos + 2) (pos + 2) (acc ++ [t])) := by
  rw [drop_at2 s pos (by omega), drop_at2 s (pos + 1) hp, pie_sep _ _ _ _ h44 h32] at h
  constructor
  · intro hn; rw [h, hn]; rfl
  · intro t ht
    refine .inl ⟨by omega, by omega, ?_⟩
    rw [h, ht, Nat.sub_self, List.take_zero, preP_nil _ (piecesF_ne _)]
    simp only
    cases allO (piecesF (s.data.toList.drop (pos + 1 + 1))) with
    | none => rfl
    | some l => simp
theorem itr_ch {s : ByteArray} {frm pos : Nat} {acc : List Tm} (hp : pos < s.size) (hf : frm ≤ pos) (hs : ¬ (s[pos] = 44 ∧ ∃ r2, s.data.toList.drop (pos + 1) = 32 :: r2)) (h : allO (piecesF s.data.toList) = (allO (preP ((s.data.toList.drop frm).take (pos - frm)) (piecesF (s.data.toList.drop pos)))).map (acc ++ ·)) :
    allO (piecesF s.data.toList) = (allO (preP ((s.data.toList.drop frm).take (pos + 1 - frm)) (piecesF (s.data.toList.drop (pos + 1))))).map (acc ++ ·) := by
  rw [h, drop_at2 s pos hp, pie_ch _ _ _ hs, take_next s frm pos hp hf]
set_option maxHeartbeats 16000000 in
set_option maxRecDepth 100000 in
theorem ritems_any (w : World) (s : ByteArray) (hl : s.size ≤ 5000000) : Calls Tryz.prog 90 #[.string s] w (ItP w (itemsF s.data.toList)) := by
  by_cases h0 : s = ByteArray.empty
  · subst h0
    go_enter Tryz.func90, Tryz.ntmps90
    go_wp2_with fail
    go_loopg [4, 6] 0 (fun gf v i wx => v = .slice none 0 0 ∧ i = .int .i64 0 ∧ Hid (Below w.heap.size w wx))
    case atStart => exact ⟨rfl, rfl, Below.refl _ _⟩
    case round =>
      obtain ⟨rfl, rfl, HX⟩ := hrel
      have t0 : decide ((0 : Int) ≤ (ByteArray.empty.size : Int)) = true := rfl
      have t1 : ByteArray.empty.toList.isEmpty = true := by rw [ByteArray.toList_eq]; rfl
      go_wp2_with fail
      go_ret2
      exact ⟨HX.out, none, 0, rfl, slv_none _ _⟩
  have hne : s.data.toList ≠ [] := fun h => h0 (by apply ByteArray.ext; apply Array.ext'; simpa using h)
  have e0 : s.toList.isEmpty = false := by
    rw [ByteArray.toList_eq]
    cases h : s.data.toList with
    | nil => exact absurd h hne
    | cons a r => rfl
  have hi : itemsF s.data.toList = allO (piecesF s.data.toList) := by
    unfold itemsF
    rw [if_neg]
    cases h : s.data.toList with
    | nil => exact absurd h hne
    | cons a r => simp
  rw [hi]
  clear hne h0 hi
  have HR : Hid (∀ r, allO (piecesF s.data.toList) = r → ∀ (w' : World) (e : Ending), Below w.heap.size w w' → (match r with
      | none => e = .returned (.tuple #[.slice none 0 0, .bool false])
      | some l => ∃ A cp, e = .returned (.tuple #[.slice A l.length cp, .bool true]) ∧ SlV TmV 2 w' (fun b => w.heap.size ≤ b) A l) → ItP w (allO (piecesF s.data.toList)) e w') := by
    intro r hr w' e h1 h2
    rw [hr]
    exact ⟨h1, h2⟩
  generalize hIT : ItP w (allO (piecesF s.data.toList)) = IT at *
  obtain ⟨i0, hi0, hz0, hz1, hz2⟩ := info_parts infoTerm
  have HI0 := Lib.hid hi0; have HZ0 := Lib.hid hz0; have HZ1 := Lib.hid hz1; have HZ2 := Lib.hid hz2
  clear hi0 hz0 hz1 hz2 hIT
  go_enter Tryz.func90, Tryz.ntmps90
  go_wp2_with fail
  go_loopg [4, 5, 6] (s.size + 1) (fun gf v f i wx => ∃ (frm pos : Nat) (acc : List Tm), f = .int .i64 frm ∧ i = .int .i64 pos ∧ s.size + 1 ≤ pos + gf ∧ acc.length ≤ pos ∧ Hid (OwnL TmV 25 2 wx w.heap.size v acc ∧ Below w.heap.size w wx) ∧ ItR s frm pos acc)
  case atStart => exact ⟨0, 0, [], rfl, rfl, by omega, by simp, ⟨OwnL.nil _ _ _ _ _, Below.refl _ _⟩, .inl ⟨Nat.zero_le _, Nat.le_refl _, by
    rw [List.drop_zero, List.take_zero, preP_nil _ (piecesF_ne _)]
    cases allO (piecesF s.data.toList) <;> rfl⟩⟩
  case round =>
    obtain ⟨frm, pos, acc, rfl, rfl, hfu, hal, HX, hr⟩ := hrel
    rcases hr with ⟨hps, hfp, hr⟩ | ⟨hps, hr⟩
    rotate_left
    focus
      have t0 : ¬ pos ≤ s.size := by omega
      have t0' : decide (pos ≤ s.size) = false := decide_eq_false t0
      obtain ⟨A, cp, rfl⟩ := HX.out.1.len
      have HSL := Lib.hid (HX.out.1.sl keeps_tm)
      have HTT := Lib.hid (HR.out _ hr)
      clear hr hps
      go_wp2_with fail
      exact HTT.out _ _ HX.out.2 ⟨A, cp, rfl, HSL.out⟩
    have t0' : decide (pos ≤ s.size) = true := decide_eq_true hps
    obtain ⟨g', rfl⟩ : ∃ g', gk = g' + 1 := ⟨gk - 1, by omega⟩
    have hw1 : IntKind.i64.wrap ((pos : Int) + 1) = (pos : Int) + 1 := by rw [IntKind.wrap_i64]; omega
    have hw2 : IntKind.i64.wrap ((pos : Int) + 2) = (pos : Int) + 2 := by rw [IntKind.wrap_i64]; omega
    have hw3 : IntKind.i64.wrap ((pos : Int) + 1 + 1) = (pos : Int) + 1 + 1 := by rw [IntKind.wrap_i64]; omega
    have hfi : (frm : Int) ≤ (pos : Int) := by omega
    by_cases hlt : pos < s.size
    rotate_left
    focus
      have t1' : decide (pos < s.size) = false := decide_eq_false hlt
      have HK := Lib.hid (itr_end (by omega) hfp hr)
      clear hr
      have CP := Lib.hid (refterm_any wr (s.extract frm pos) (by rw [ByteArray.size_extract]; omega))
      rw [ext_list] at CP
      go_wp2_with fail
      refine CP.out.mono ?_
      clear CP
      rintro e w4 ⟨hb4, hm4⟩
      have HB4 := Lib.hid hb4
      clear hb4
      cases hr : termRF ((s.data.toList.drop frm).take (pos - frm)) with
      | err p z =>
        rw [hr] at hm4
        simp only at hm4
        subst hm4
        have hz := nz_termR hr
        have hz2 : (z != 0) = true := by simpa using hz
        have HTT := Lib.hid (HR.out none (HK.out.1 (by unfold termO; rw [hr])))
        have HB5 := Lib.hid ((HX.out.2.trans (HB4.out.mono HX.out.2.size)).alloc (Nat.le_trans HX.out.2.size HB4.out.size) (.cells #[.string ⟨#[]⟩, .slice none 0 0] 25))
        clear hr hz
        go_wp2_with fail
        exact HTT.out _ _ HB5.out rfl
      | ok t =>
        rw [hr] at hm4
        simp only at hm4
        obtain ⟨v4, rfl, y, rfl, htm⟩ := hm4
        obtain ⟨nm', A', cp', a', rfl, rfl⟩ := htm.form
        have HTO := Lib.hid (HK.out.2 _ (show termO ((s.data.toList.drop frm).take (pos - frm)) = some (.mk nm' a') by unfold termO; rw [hr]))
        obtain ⟨A, cp, hv⟩ := HX.out.1.len
        subst hv
        have HOB := Lib.hid (one_box w4 (.cells #[.string (bs nm'), .slice A' a'.length cp'] 25))
        have HB5 := Lib.hid (HB4.out.trans (HOB.out.1.mono HB4.out.size))
        have hO5 := HX.out.1.below keeps_tm HB5.out
        have ht5 := htm.keep (P' := fun b => wr.heap.size ≤ b) (fun b hp hb => ⟨hp, HOB.out.1.block b hb⟩) HOB.out.1.size
        obtain ⟨xs, hx1, hx2⟩ := own_app hO5 ht5 rfl HX.out.2.size (fun j hj => by obtain ⟨_, _, _, h3, _⟩ := HX.out.1; exact (h3.lt j hj).2)
        have HX1 := Lib.hid hx1
        have HX2 := Lib.hid hx2
        have HBW := Lib.hid (HX.out.2.trans (HB5.out.mono HX.out.2.size))
        have hbs : w.heap.size ≤ (w4.alloc (.cells #[.string (bs nm'), .slice A' a'.length cp'] 25)).heap.size := HBW.out.size
        have c0 := cell_blk HOB.out.2 0
        have c1 := cell_blk HOB.out.2 1
        clear hx1 hx2 htm ht5 hO5 hr
        generalize hW5 : w4.alloc (.cells #[.string (bs nm'), .slice A' a'.length cp'] 25) = w5 at *
        go_wp2_with (at_builtin; refine wpList_append_lies _ rfl _ _ _ rfl w.heap.size 25 i0 _ 2 40 Tryz.underlying23 HI0.out HZ0.out HZ1.out HZ2.out rfl (by omega) (.slice A acc.length cp) acc.length xs rfl (HX1.out.alloc _) ⟨w5.heap.size, 0, none⟩ 1 1 [.string (bs nm'), .slice A' a'.length cp'] rfl rfl (World.news_of_block (cs := #[.string (bs nm'), .slice A' a'.length cp']) (t := 25) (fr := (0, 0)) (heap_alloc_new w5 _)) (by simp [Value.oneCell']) (by omega) (by unfold maxLen; omega) (by omega) (by simp; omega) (w5.heap.size + 1) (by simp) ?_; intro g cp6 w6 hown6 hgrow hat hlt6; have HC6 := Lib.hid (HX2.out g cp6 w6 _ hown6 hgrow hat); have HB6 := Lib.hid ((HBW.out.alloc hbs (.cells #[.string (bs nm'), .slice A' a'.length cp'] 25)).grown hgrow (by simp; omega) (fun j hj => (HX1.out.lt j hj).1)); clear hown6 hgrow hat hlt6)
        go_roundg g'
        case measure => omega
        case rel => exact ⟨pos + 2, pos + 2, acc ++ [.mk nm' a'], by go_num, by go_num, by omega, by simp; omega, ⟨HC6.out, HB6.out⟩, HTO.out⟩
    have t1' : decide (pos < s.size) = true := decide_eq_true hlt
    by_cases h44 : s[pos].toNat = 44
    rotate_left
    focus
      have t2 : ((s[pos].toNat : Int) != 44) = true := by simp; omega
      have t2' : ¬ ((s[pos].toNat : Int) = 44) := by omega
      have HC := Lib.hid (itr_ch hlt hfp (fun h => h44 (by rw [h.1]; rfl)) hr)
      clear hr h44
      go_wp2_with fail
      go_roundg g'
      case measure => omega
      case rel => exact ⟨frm, pos + 1, acc, rfl, by go_num, by omega, by omega, HX.out, .inl ⟨by omega, by omega, HC.out⟩⟩
    have t2 : ((s[pos].toNat : Int) != 44) = false := by simp; omega
    have t2' : (s[pos].toNat : Int) = 44 := by omega
    by_cases h1 : pos + 1 < s.size
    rotate_left
    focus
      have t3 : ((pos : Int) + 1 == (s.size : Int)) = true := by simp; omega
      have t3' : (pos : Int) + 1 = (s.size : Int) := by omega
      have HC := Lib.hid (itr_ch hlt hfp (fun h => by
        obtain ⟨_, r2, h2⟩ := h
        rw [List.drop_of_length_le (by simp; omega)] at h2
        cases h2) hr)
      clear hr h44
      go_wp2_with fail
      go_roundg g'
      case measure => omega
      case rel => exact ⟨frm, pos + 1, acc, rfl, by go_num, by omega, by omega, HX.out, .inl ⟨by omega, by omega, HC.out⟩⟩
    have t3 : ((pos : Int) + 1 == (s.size : Int)) = false := by simp; omega
    have t3' : ¬ ((pos : Int) + 1 = (s.size : Int)) := by omega
    have j3 : (pos : Int) + 1 < (s.size : Int) := by omega
    have j7 : (0 : Int) ≤ (pos : Int) + 1 := by omega
    have hn1 : ((pos : Int) + 1).toNat = pos + 1 := by omega
    by_cases h32 : s[pos + 1].toNat = 32
    rotate_left
    focus
      have t4 : ((s[pos + 1].toNat : Int) != 32) = true := by simp; omega
      have t4' : ¬ ((s[pos + 1].toNat : Int) = 32) := by omega
      have HC := Lib.hid (itr_ch hlt hfp (fun h => by
        obtain ⟨_, r2, h2⟩ := h
        rw [drop_at2 s (pos + 1) h1] at h2
        injection h2 with h2
        exact h32 (by rw [h2]; rfl)) hr)
      clear hr h44 h32
      go_wp2_with fail
      go_roundg g'
      case measure => omega
      case rel => exact ⟨frm, pos + 1, acc, rfl, by go_num, by omega, by omega, HX.out, .inl ⟨by omega, by omega, HC.out⟩⟩
    have t4 : ((s[pos + 1].toNat : Int) != 32) = false := by simp; omega
    have t4' : (s[pos + 1].toNat : Int) = 32 := by omega
    have HK := Lib.hid (itr_sep h1 (u8_eq (by rw [h44]; rfl)) (u8_eq (by rw [h32]; rfl)) hr)
    clear hr h44 h32
    have CP := Lib.hid (refterm_any wr (s.extract frm pos) (by rw [ByteArray.size_extract]; omega))
    rw [ext_list] at CP
    go_wp2_with fail
    refine CP.out.mono ?_
    clear CP
    rintro e w4 ⟨hb4, hm4⟩
    have HB4 := Lib.hid hb4
    clear hb4
    cases hr : termRF ((s.data.toList.drop frm).take (pos - frm)) with
    | err p z =>
      rw [hr] at hm4
      simp only at hm4
      subst hm4
      have hz := nz_termR hr
      have hz2 : (z != 0) = true := by simpa using hz
      have HTT := Lib.hid (HR.out none (HK.out.1 (by unfold termO; rw [hr])))
      have HB5 := Lib.hid ((HX.out.2.trans (HB4.out.mono HX.out.2.size)).alloc (Nat.le_trans HX.out.2.size HB4.out.size) (.cells #[.string ⟨#[]⟩, .slice none 0 0] 25))
      clear hr hz
      go_wp2_with fail
      exact HTT.out _ _ HB5.out rfl
    | ok t =>
      rw [hr] at hm4
      simp only at hm4
      obtain ⟨v4, rfl, y, rfl, htm⟩ := hm4
      obtain ⟨nm', A', cp', a', rfl, rfl⟩ := htm.form
      have HTO := Lib.hid (HK.out.2 _ (show termO ((s.data.toList.drop frm).take (pos - frm)) = some (.mk nm' a') by unfold termO; rw [hr]))
      obtain ⟨A, cp, hv⟩ := HX.out.1.len
      subst hv
      have HOB := Lib.hid (one_box w4 (.cells #[.string (bs nm'), .slice A' a'.length cp'] 25))
      have HB5 := Lib.hid (HB4.out.trans (HOB.out.1.mono HB4.out.size))
      have hO5 := HX.out.1.below keeps_tm HB5.out
      have ht5 := htm.keep (P' := fun b => wr.heap.size ≤ b) (fun b hp hb => ⟨hp, HOB.out.1.block b hb⟩) HOB.out.1.size
      obtain ⟨xs, hx1, hx2⟩ := own_app hO5 ht5 rfl HX.out.2.size (fun j hj => by obtain ⟨_, _, _, h3, _⟩ := HX.out.1; exact (h3.lt j hj).2)
      have HX1 := Lib.hid hx1
      have HX2 := Lib.hid hx2
      have HBW := Lib.hid (HX.out.2.trans (HB5.out.mono HX.out.2.size))
      have hbs : w.heap.size ≤ (w4.alloc (.cells #[.string (bs nm'), .slice A' a'.length cp'] 25)).heap.size := HBW.out.size
      have c0 := cell_blk HOB.out.2 0
      have c1 := cell_blk HOB.out.2 1
      clear hx1 hx2 htm ht5 hO5 hr
      generalize hW5 : w4.alloc (.cells #[.string (bs nm'), .slice A' a'.length cp'] 25) = w5 at *
      go_wp2_with (at_builtin; refine wpList_append_lies _ rfl _ _ _ rfl w.heap.size 25 i0 _ 2 40 Tryz.underlying23 HI0.out HZ0.out HZ1.out HZ2.out rfl (by omega) (.slice A acc.length cp) acc.length xs rfl (HX1.out.alloc _) ⟨w5.heap.size, 0, none⟩ 1 1 [.string (bs nm'), .slice A' a'.length cp'] rfl rfl (World.news_of_block (cs := #[.string (bs nm'), .slice A' a'.length cp']) (t := 25) (fr := (0, 0)) (heap_alloc_new w5 _)) (by simp [Value.oneCell']) (by omega) (by unfold maxLen; omega) (by omega) (by simp; omega) (w5.heap.size + 1) (by simp) ?_; intro g cp6 w6 hown6 hgrow hat hlt6; have HC6 := Lib.hid (HX2.out g cp6 w6 _ hown6 hgrow hat); have HB6 := Lib.hid ((HBW.out.alloc hbs (.cells #[.string (bs nm'), .slice A' a'.length cp'] 25)).grown hgrow (by simp; omega) (fun j hj => (HX1.out.lt j hj).1)); clear hown6 hgrow hat hlt6)
      go_roundg g'
      case measure => omega
      case rel => exact ⟨pos + 2, pos + 2, acc ++ [.mk nm' a'], by go_num, by go_num, by omega, by simp; omega, ⟨HC6.out, HB6.out⟩, HTO.out⟩

end
/- The reference's terms and guess. -/
section
open Go Go.RowKit Go.Shelf
set_option linter.unusedSimpArgs false
set_option linter.unusedVariables false

theorem un_le {s t : List UInt8} (h : unT s = some t) : t.length ≤ s.length := by
  rw [unT_iff] at h
  by_cases hz : t = []
  · subst hz; simp
  · rw [escT_ne hz] at h
    have := (escA_len t).1
    rw [h] at this
    exact this
theorem tmv_leaf3 (w : World) (P : Nat → Prop) (nm : List UInt8) (cp : Nat) (A : Option Addr) : TmV w P [.string (bs nm), .slice A 0 cp] (.mk nm []) :=
  TmV.mk (w := w) (P := P) nm A cp [] [] rfl (fun h => by simp at h) (fun i x t h => by simp at h)
theorem slv_bad (w : World) (B : Nat) (T : TypeId) (hB : B ≤ w.heap.size) : SlV TmV 2 (w.alloc (.cells #[.string ⟨#[]⟩, .slice none 0 0] T)) (fun b => B ≤ b) (some ⟨w.heap.size, 0, none⟩) [.mk [] []] := by
  have hc := cell_blk (heap_alloc_new w (.cells #[.string ⟨#[]⟩, .slice none 0 0] T))
  refine ⟨[[.string ⟨#[]⟩, .slice none 0 0]], rfl, fun _ => ⟨w.heap.size, 0, rfl, hB, by simp, ?_⟩, ?_⟩
  · intro i x hx j u hu
    match i, hx with
    | 0, hx =>
      injection hx with hx
      subst hx
      have e := hc j
      rw [show 0 + 0 * 2 + j = j by omega, e]
      simpa using hu
  · intro i x t hx ht
    match i, hx, ht with
    | 0, hx, ht =>
      injection hx with hx
      injection ht with ht
      subst hx ht
      exact tmv_leaf3 _ _ [] 0 none
/-- what terms returns -/
def SlP (w : World) (a : List Tm) (e : Ending) (w' : World) : Prop := Below w.heap.size w w' ∧ ∃ A cp, e = .returned (.slice A a.length cp) ∧ SlV TmV 2 w' (fun b => w.heap.size ≤ b) A a
set_option maxHeartbeats 8000000 in
set_option maxRecDepth 100000 in
theorem rterms_any (w : World) (s : ByteArray) (hl : s.size ≤ 5000000) : Calls Tryz.prog 73 #[.string s] w (SlP w (termsR s.data.toList)) := by
  have CU := Lib.hid (runescape_any w s (by omega))
  have hlen : s.data.toList.length = s.size := by simp
  unfold unV at CU
  cases hu : unT s.data.toList with
  | none =>
    have HT : Hid (termsR s.data.toList = [.mk [] []]) := by
      unfold termsR termsP
      rw [Hid, hu]
      rfl
    rw [unO_none hu] at CU
    simp only at CU
    rw [show bs [] = ⟨#[]⟩ from rfl] at CU
    have CI := Lib.hid (fun y => ritems_any y ⟨#[]⟩ (by decide))
    clear hu hlen
    go_enter Tryz.func73, Tryz.ntmps73
    go_wp2_with fail
    refine CU.out.mono ?_
    rintro e w1 ⟨rfl, hb⟩
    have HB1 := Lib.hid hb
    clear hb CU
    go_wp2_with fail
    refine (CI.out w1).mono ?_
    rintro e w2 ⟨hb, A, cp, rfl, _⟩
    have HB2 := Lib.hid (HB1.out.trans (hb.mono HB1.out.size))
    clear hb CI
    go_wp2_with fail
    go_ret
    exact ⟨HB2.out.alloc HB2.out.size _, some ⟨w2.heap.size, 0, none⟩, 1, by rw [HT.out]; rfl, by rw [HT.out]; exact slv_bad _ _ _ HB2.out.size⟩
  | some t =>
    have htl := un_le hu
    rw [unO_some hu] at CU
    simp only at CU
    have CI := Lib.hid (fun y => ritems_any y (bs t) (by rw [size_bs]; omega))
    rw [toList_bs] at CI
    have HT : Hid (termsR s.data.toList = (itemsF t).getD [.mk [] []]) := by
      unfold termsR termsP
      rw [Hid, hu]
      rfl
    clear hu hlen htl
    generalize bs t = st at *
    generalize itemsF t = r at *
    cases r with
    | none =>
      go_enter Tryz.func73, Tryz.ntmps73
      go_wp2_with fail
      refine CU.out.mono ?_
      rintro e w1 ⟨rfl, hb⟩
      have HB1 := Lib.hid hb
      clear hb CU
      go_wp2_with fail
      refine (CI.out w1).mono ?_
      rintro e w2 ⟨hb, rfl⟩
      have HB2 := Lib.hid (HB1.out.trans (hb.mono HB1.out.size))
      clear hb CI
      go_wp2_with fail
      go_ret
      exact ⟨HB2.out.alloc HB2.out.size _, some ⟨w2.heap.size, 0, none⟩, 1, by rw [HT.out]; rfl, by rw [HT.out]; exact slv_bad _ _ _ HB2.out.size⟩
    | some l =>
      go_enter Tryz.func73, Tryz.ntmps73
      go_wp2_with fail
      refine CU.out.mono ?_
      rintro e w1 ⟨rfl, hb⟩
      have HB1 := Lib.hid hb
      clear hb CU
      go_wp2_with fail
      refine (CI.out w1).mono ?_
      rintro e w2 ⟨hb, A, cp, rfl, hs⟩
      have HB2 := Lib.hid (HB1.out.trans (hb.mono HB1.out.size))
      have HS := Lib.hid (hs.keep keeps_tm (P' := fun b => w.heap.size ≤ b) (fun b hb _ => ⟨Nat.le_trans HB1.out.size hb, rfl⟩) (Nat.le_refl _))
      clear hb hs CI
      go_wp2_with fail
      go_ret
      exact ⟨HB2.out, A, cp, by rw [HT.out]; rfl, by rw [HT.out]; exact HS.out⟩

/-- a message in the cells of a value, its lists in newer blocks -/
def MsG (w : World) (B : Nat) (C : Array Value) (m : Ms) : Prop :=
  ∃ A1 c1 A2 c2, C = #[.int .i64 m.kind, .string (bs m.mat), .string (bs m.role.name), .slice none 0 0, .int .i64 m.sc, .int .i64 m.pc, .slice A1 m.moves.length c1, .slice A2 m.percepts.length c2, .string (bs m.text)] ∧ m.role.args = [] ∧
    SlV TmV 2 w (fun k => B ≤ k) A1 m.moves ∧ SlV TmV 2 w (fun k => B ≤ k) A2 m.percepts
def GsP (w : World) (m : Ms) (e : Ending) (w' : World) : Prop := Below w.heap.size w w' ∧ ∃ C, MsG w' w.heap.size C m ∧ e = .returned (.agg C)
theorem slv_set {w w' : World} {b : Nat} {A : Option Addr} {l : List Tm} (h : SlV TmV 2 w (fun k => b + 1 ≤ k) A l) (hg : w.grownBy w' (some b)) : SlV TmV 2 w' (fun k => b ≤ k) A l :=
  h.keep keeps_tm (fun k hk hl => ⟨by omega, hg.block k hl (by simp; omega)⟩) hg.size
theorem slv_off {w w' : World} {B : Nat} {A : Option Addr} {l : List Tm} (h : SlV TmV 2 w (fun k => B ≤ k) A l) (hb : Below w.heap.size w w') : SlV TmV 2 w' (fun k => B ≤ k) A l :=
  h.keep keeps_tm (fun k hk hl => ⟨hk, hb.block k hl⟩) hb.size
theorem slv_up {w : World} {B B' : Nat} {A : Option Addr} {l : List Tm} (h : SlV TmV 2 w (fun k => B ≤ k) A l) (hb : B' ≤ B) : SlV TmV 2 w (fun k => B' ≤ k) A l :=
  h.keep keeps_tm (fun k hk hl => ⟨by omega, rfl⟩) (Nat.le_refl _)
theorem nine_cells {w : World} {b : Nat} (h : w.heap[b]? = some (.cells zMsg 27 (0, 0))) :
    (w.cell? ⟨b, 0, none⟩ = some (.int .i64 0) ∧ w.cell? ⟨b, 1, none⟩ = some (.string ⟨#[]⟩) ∧ w.cell? ⟨b, 2, none⟩ = some (.string ⟨#[]⟩) ∧ w.cell? ⟨b, 3, none⟩ = some (.slice none 0 0) ∧ w.cell? ⟨b, 4, none⟩ = some (.int .i64 0) ∧ w.cell? ⟨b, 5, none⟩ = some (.int .i64 0) ∧ w.cell? ⟨b, 6, none⟩ = some (.slice none 0 0) ∧ w.cell? ⟨b, 7, none⟩ = some (.slice none 0 0) ∧ w.cell? ⟨b, 8, none⟩ = some (.string ⟨#[]⟩)) ∧
    (w.frozen? ⟨b, 0, none⟩ = false ∧ w.frozen? ⟨b, 1, none⟩ = false ∧ w.frozen? ⟨b, 2, none⟩ = false ∧ w.frozen? ⟨b, 3, none⟩ = false ∧ w.frozen? ⟨b, 4, none⟩ = false ∧ w.frozen? ⟨b, 5, none⟩ = false ∧ w.frozen? ⟨b, 6, none⟩ = false ∧ w.frozen? ⟨b, 7, none⟩ = false ∧ w.frozen? ⟨b, 8, none⟩ = false) :=
  ⟨⟨cell_blk h 0, cell_blk h 1, cell_blk h 2, cell_blk h 3, cell_blk h 4, cell_blk h 5, cell_blk h 6, cell_blk h 7, cell_blk h 8⟩, frozen_blk h 0, frozen_blk h 1, frozen_blk h 2, frozen_blk h 3, frozen_blk h 4, frozen_blk h 5, frozen_blk h 6, frozen_blk h 7, frozen_blk h 8⟩

set_option maxHeartbeats 8000000 in
set_option maxRecDepth 100000 in
theorem rg_ready (w : World) (g cap : Nat) (l : List (List UInt8)) (hs : StrAt w g 0 (wReady :: l)) (hg : g < w.heap.size) (hl : ∀ x ∈ (wReady :: l), x.length ≤ 4000) (hn : l.length ≤ 10000000) :
    Calls Tryz.prog 52 #[.slice (some ⟨g, 0, none⟩) (l.length + 1) cap] w (GsP w (guessF (wReady :: l))) := by
  have HGF : Hid (guessF (wReady :: l) = ⟨5, [], .mk [] [], 0, 0, [], [], []⟩) := by rw [Hid]; simp only [guessF, if_neg (show ¬ wReady = wStart by decide), if_neg (show ¬ wReady = wPlay by decide), if_neg (show ¬ wReady = wStop by decide), if_neg (show ¬ wReady = wAbort by decide), if_true]
  have HB0 := Lib.hid (one_box w (.cells zMsg 27))
  have K0 := Lib.hid ((HB0.out.1.cell (p := ⟨g, 0, none⟩) hg).trans (hs 0 _ rfl))
  have hx0 : (bs wReady).toList = wReady := by rw [ByteArray.toList_eq, toList_bs]
  have HX0 := Lib.hid hx0
  clear hx0
  clear hs hl
  generalize bs wReady = x0 at *
  have e0 : (x0.toList == [115, 116, 97, 114, 116]) = false := by rw [HX0.out]; rfl
  have e1 : (x0.toList == [112, 108, 97, 121]) = false := by rw [HX0.out]; rfl
  have e2 : (x0.toList == [115, 116, 111, 112]) = false := by rw [HX0.out]; rfl
  have e3 : (x0.toList == [97, 98, 111, 114, 116]) = false := by rw [HX0.out]; rfl
  have e4 : (x0.toList == [114, 101, 97, 100, 121]) = true := by rw [HX0.out]; rfl
  go_enter Tryz.func52, Tryz.ntmps52
  go_upto_region 1 with fail
  have hw0 : w.alloc (.cells zMsg 27) = w.alloc (.cells zMsg 27) := rfl
  clear hw0
  generalize w.alloc (.cells #[.int .i64 0, .string ⟨#[]⟩, .string ⟨#[]⟩, .slice none 0 0, .int .i64 0, .int .i64 0, .slice none 0 0, .slice none 0 0, .string ⟨#[]⟩] 27) = w0 at *
  have HB := Lib.hid HB0.out.1
  have HR := Lib.hid HB0.out.2
  have k0 := K0.out
  obtain ⟨⟨r0, r1, r2, r3, r4, r5, r6, r7, r8⟩, g0, g1, g2, g3, g4, g5, g6, g7, g8⟩ := nine_cells HR.out
  go_wp2_with fail
  clear r0 r1 r2 r3 r4 r5 r6 r7 r8 g0 g1 g2 g3 g4 g5 g6 g7 g8
  have HN := Lib.hid (set_nine HR.out (.int .i64 5) (.string ⟨#[]⟩) (.string ⟨#[]⟩) (.slice none 0 0) (.int .i64 0) (.int .i64 0) (.slice none 0 0) (.slice none 0 0) (.string ⟨#[]⟩))
  have HBF := Lib.hid (HB.out.trans (grown_below HN.out.2 (Nat.le_refl _) HB.out.size))
  generalize ((((((((w0.setCell ⟨w.heap.size, 0, none⟩ (.int .i64 5)).setCell ⟨w.heap.size, 1, none⟩ (.string ⟨#[]⟩)).setCell ⟨w.heap.size, 2, none⟩ (.string ⟨#[]⟩)).setCell ⟨w.heap.size, 3, none⟩ (.slice none 0 0)).setCell ⟨w.heap.size, 4, none⟩ (.int .i64 0)).setCell ⟨w.heap.size, 5, none⟩ (.int .i64 0)).setCell ⟨w.heap.size, 6, none⟩ (.slice none 0 0)).setCell ⟨w.heap.size, 7, none⟩ (.slice none 0 0)).setCell ⟨w.heap.size, 8, none⟩ (.string ⟨#[]⟩) = wf at *
  have c := cell_blk HN.out.1
  have v0 := c 0; have v1 := c 1; have v2 := c 2; have v3 := c 3; have v4 := c 4; have v5 := c 5; have v6 := c 6; have v7 := c 7; have v8 := c 8
  simp at v0 v1 v2 v3 v4 v5 v6 v7 v8
  refine bodyPost_ret (v := .agg #[.int .i64 5, .string ⟨#[]⟩, .string ⟨#[]⟩, .slice none 0 0, .int .i64 0, .int .i64 0, .slice none 0 0, .slice none 0 0, .string ⟨#[]⟩]) (by simp [results, Tryz.results52, go_sem, v0, v1, v2, v3, v4, v5, v6, v7, v8]) rfl ?_
  refine ⟨HBF.out, _, ?_, rfl⟩
  rw [HGF.out]
  exact ⟨none, 0, none, 0, rfl, rfl, slv_none _ _, slv_none _ _⟩
set_option maxHeartbeats 8000000 in
set_option maxRecDepth 100000 in
theorem rg_done (w : World) (g cap : Nat) (l : List (List UInt8)) (hs : StrAt w g 0 (wDone :: l)) (hg : g < w.heap.size) (hl : ∀ x ∈ (wDone :: l), x.length ≤ 4000) (hn : l.length ≤ 10000000) :
    Calls Tryz.prog 52 #[.slice (some ⟨g, 0, none⟩) (l.length + 1) cap] w (GsP w (guessF (wDone :: l))) := by
  have HGF : Hid (guessF (wDone :: l) = ⟨7, [], .mk [] [], 0, 0, [], [], []⟩) := by rw [Hid]; simp only [guessF, if_neg (show ¬ wDone = wStart by decide), if_neg (show ¬ wDone = wPlay by decide), if_neg (show ¬ wDone = wStop by decide), if_neg (show ¬ wDone = wAbort by decide), if_neg (show ¬ wDone = wReady by decide), if_neg (show ¬ wDone = wMove by decide), if_true]
  have HB0 := Lib.hid (one_box w (.cells zMsg 27))
  have K0 := Lib.hid ((HB0.out.1.cell (p := ⟨g, 0, none⟩) hg).trans (hs 0 _ rfl))
  have hx0 : (bs wDone).toList = wDone := by rw [ByteArray.toList_eq, toList_bs]
  have HX0 := Lib.hid hx0
  clear hx0
  clear hs hl
  generalize bs wDone = x0 at *
  have e0 : (x0.toList == [115, 116, 97, 114, 116]) = false := by rw [HX0.out]; rfl
  have e1 : (x0.toList == [112, 108, 97, 121]) = false := by rw [HX0.out]; rfl
  have e2 : (x0.toList == [115, 116, 111, 112]) = false := by rw [HX0.out]; rfl
  have e3 : (x0.toList == [97, 98, 111, 114, 116]) = false := by rw [HX0.out]; rfl
  have e4 : (x0.toList == [114, 101, 97, 100, 121]) = false := by rw [HX0.out]; rfl
  have e5 : (x0.toList == [109, 111, 118, 101]) = false := by rw [HX0.out]; rfl
  have e6 : (x0.toList == [100, 111, 110, 101]) = true := by rw [HX0.out]; rfl
  go_enter Tryz.func52, Tryz.ntmps52
  go_upto_region 1 with fail
  have hw0 : w.alloc (.cells zMsg 27) = w.alloc (.cells zMsg 27) := rfl
  clear hw0
  generalize w.alloc (.cells #[.int .i64 0, .string ⟨#[]⟩, .string ⟨#[]⟩, .slice none 0 0, .int .i64 0, .int .i64 0, .slice none 0 0, .slice none 0 0, .string ⟨#[]⟩] 27) = w0 at *
  have HB := Lib.hid HB0.out.1
  have HR := Lib.hid HB0.out.2
  have k0 := K0.out
  obtain ⟨⟨r0, r1, r2, r3, r4, r5, r6, r7, r8⟩, g0, g1, g2, g3, g4, g5, g6, g7, g8⟩ := nine_cells HR.out
  go_wp2_with fail
  clear r0 r1 r2 r3 r4 r5 r6 r7 r8 g0 g1 g2 g3 g4 g5 g6 g7 g8
  have HN := Lib.hid (set_nine HR.out (.int .i64 7) (.string ⟨#[]⟩) (.string ⟨#[]⟩) (.slice none 0 0) (.int .i64 0) (.int .i64 0) (.slice none 0 0) (.slice none 0 0) (.string ⟨#[]⟩))
  have HBF := Lib.hid (HB.out.trans (grown_below HN.out.2 (Nat.le_refl _) HB.out.size))
  generalize ((((((((w0.setCell ⟨w.heap.size, 0, none⟩ (.int .i64 7)).setCell ⟨w.heap.size, 1, none⟩ (.string ⟨#[]⟩)).setCell ⟨w.heap.size, 2, none⟩ (.string ⟨#[]⟩)).setCell ⟨w.heap.size, 3, none⟩ (.slice none 0 0)).setCell ⟨w.heap.size, 4, none⟩ (.int .i64 0)).setCell ⟨w.heap.size, 5, none⟩ (.int .i64 0)).setCell ⟨w.heap.size, 6, none⟩ (.slice none 0 0)).setCell ⟨w.heap.size, 7, none⟩ (.slice none 0 0)).setCell ⟨w.heap.size, 8, none⟩ (.string ⟨#[]⟩) = wf at *
  have c := cell_blk HN.out.1
  have v0 := c 0; have v1 := c 1; have v2 := c 2; have v3 := c 3; have v4 := c 4; have v5 := c 5; have v6 := c 6; have v7 := c 7; have v8 := c 8
  simp at v0 v1 v2 v3 v4 v5 v6 v7 v8
  refine bodyPost_ret (v := .agg #[.int .i64 7, .string ⟨#[]⟩, .string ⟨#[]⟩, .slice none 0 0, .int .i64 0, .int .i64 0, .slice none 0 0, .slice none 0 0, .string ⟨#[]⟩]) (by simp [results, Tryz.results52, go_sem, v0, v1, v2, v3, v4, v5, v6, v7, v8]) rfl ?_
  refine ⟨HBF.out, _, ?_, rfl⟩
  rw [HGF.out]
  exact ⟨none, 0, none, 0, rfl, rfl, slv_none _ _, slv_none _ _⟩
set_option maxHeartbeats 8000000 in
set_option maxRecDepth 100000 in
theorem rg_abort (w : World) (g cap : Nat) (a : List UInt8) (hs : StrAt w g 0 ([wAbort, a])) (hg : g < w.heap.size) (hl : ∀ x ∈ ([wAbort, a]), x.length ≤ 4000) :
    Calls Tryz.prog 52 #[.slice (some ⟨g, 0, none⟩) 2 cap] w (GsP w (guessF ([wAbort, a]))) := by
  have HGF : Hid (guessF ([wAbort, a]) = ⟨4, a, .mk [] [], 0, 0, [], [], []⟩) := by rw [Hid]; simp only [guessF, if_neg (show ¬ wAbort = wStart by decide), if_neg (show ¬ wAbort = wPlay by decide), if_neg (show ¬ wAbort = wStop by decide), if_true]
  have HB0 := Lib.hid (one_box w (.cells zMsg 27))
  have K0 := Lib.hid ((HB0.out.1.cell (p := ⟨g, 0, none⟩) hg).trans (hs 0 _ rfl))
  have K1 := Lib.hid ((HB0.out.1.cell (p := ⟨g, 1, none⟩) hg).trans ((show w.cell? ⟨g, 1, none⟩ = w.cell? ⟨g, 0 + 1, none⟩ by rw [Nat.zero_add]).trans (hs 1 _ rfl)))
  have hx0 : (bs wAbort).toList = wAbort := by rw [ByteArray.toList_eq, toList_bs]
  have HX0 := Lib.hid hx0
  clear hx0
  have hl1 : (bs a).size ≤ 4000 := by rw [size_bs]; exact hl a (by simp)
  clear hs hl
  generalize bs wAbort = x0 at *
  have e0 : (x0.toList == [115, 116, 97, 114, 116]) = false := by rw [HX0.out]; rfl
  have e1 : (x0.toList == [112, 108, 97, 121]) = false := by rw [HX0.out]; rfl
  have e2 : (x0.toList == [115, 116, 111, 112]) = false := by rw [HX0.out]; rfl
  have e3 : (x0.toList == [97, 98, 111, 114, 116]) = true := by rw [HX0.out]; rfl
  go_enter Tryz.func52, Tryz.ntmps52
  go_upto_region 1 with fail
  have hw0 : w.alloc (.cells zMsg 27) = w.alloc (.cells zMsg 27) := rfl
  clear hw0
  generalize w.alloc (.cells #[.int .i64 0, .string ⟨#[]⟩, .string ⟨#[]⟩, .slice none 0 0, .int .i64 0, .int .i64 0, .slice none 0 0, .slice none 0 0, .string ⟨#[]⟩] 27) = w0 at *
  have HB := Lib.hid HB0.out.1
  have HR := Lib.hid HB0.out.2
  have k0 := K0.out
  have k1 := K1.out
  obtain ⟨⟨r0, r1, r2, r3, r4, r5, r6, r7, r8⟩, g0, g1, g2, g3, g4, g5, g6, g7, g8⟩ := nine_cells HR.out
  go_wp2_with fail
  clear r0 r1 r2 r3 r4 r5 r6 r7 r8 g0 g1 g2 g3 g4 g5 g6 g7 g8
  have HN := Lib.hid (set_nine HR.out (.int .i64 4) (.string (bs a)) (.string ⟨#[]⟩) (.slice none 0 0) (.int .i64 0) (.int .i64 0) (.slice none 0 0) (.slice none 0 0) (.string ⟨#[]⟩))
  have HBF := Lib.hid (HB.out.trans (grown_below HN.out.2 (Nat.le_refl _) HB.out.size))
  generalize ((((((((w0.setCell ⟨w.heap.size, 0, none⟩ (.int .i64 4)).setCell ⟨w.heap.size, 1, none⟩ (.string (bs a))).setCell ⟨w.heap.size, 2, none⟩ (.string ⟨#[]⟩)).setCell ⟨w.heap.size, 3, none⟩ (.slice none 0 0)).setCell ⟨w.heap.size, 4, none⟩ (.int .i64 0)).setCell ⟨w.heap.size, 5, none⟩ (.int .i64 0)).setCell ⟨w.heap.size, 6, none⟩ (.slice none 0 0)).setCell ⟨w.heap.size, 7, none⟩ (.slice none 0 0)).setCell ⟨w.heap.size, 8, none⟩ (.string ⟨#[]⟩) = wf at *
  have c := cell_blk HN.out.1
  have v0 := c 0; have v1 := c 1; have v2 := c 2; have v3 := c 3; have v4 := c 4; have v5 := c 5; have v6 := c 6; have v7 := c 7; have v8 := c 8
  simp at v0 v1 v2 v3 v4 v5 v6 v7 v8
  refine bodyPost_ret (v := .agg #[.int .i64 4, .string (bs a), .string ⟨#[]⟩, .slice none 0 0, .int .i64 0, .int .i64 0, .slice none 0 0, .slice none 0 0, .string ⟨#[]⟩]) (by simp [results, Tryz.results52, go_sem, v0, v1, v2, v3, v4, v5, v6, v7, v8]) rfl ?_
  refine ⟨HBF.out, _, ?_, rfl⟩
  rw [HGF.out]
  exact ⟨none, 0, none, 0, rfl, rfl, slv_none _ _, slv_none _ _⟩
set_option maxHeartbeats 8000000 in
set_option maxRecDepth 100000 in
theorem rg_start0 (w : World) (g cap : Nat) (l : List (List UInt8)) (hs : StrAt w g 0 (wStart :: l)) (hg : g < w.heap.size) (hl : ∀ x ∈ (wStart :: l), x.length ≤ 4000) (hn : l.length ≤ 10000000) (hk : l.length ≠ 5) :
    Calls Tryz.prog 52 #[.slice (some ⟨g, 0, none⟩) (l.length + 1) cap] w (GsP w (guessF (wStart :: l))) := by
  have HGF : Hid (guessF (wStart :: l) = ms0) := by
      rw [Hid]
      simp only [guessF, if_true]
      split
      · simp at hk
      · rfl
  have HB0 := Lib.hid (one_box w (.cells zMsg 27))
  have K0 := Lib.hid ((HB0.out.1.cell (p := ⟨g, 0, none⟩) hg).trans (hs 0 _ rfl))
  have hx0 : (bs wStart).toList = wStart := by rw [ByteArray.toList_eq, toList_bs]
  have HX0 := Lib.hid hx0
  clear hx0
  clear hs hl
  generalize bs wStart = x0 at *
  have e0 : (x0.toList == [115, 116, 97, 114, 116]) = true := by rw [HX0.out]; rfl
  go_enter Tryz.func52, Tryz.ntmps52
  go_upto_region 1 with fail
  have hw0 : w.alloc (.cells zMsg 27) = w.alloc (.cells zMsg 27) := rfl
  clear hw0
  generalize w.alloc (.cells #[.int .i64 0, .string ⟨#[]⟩, .string ⟨#[]⟩, .slice none 0 0, .int .i64 0, .int .i64 0, .slice none 0 0, .slice none 0 0, .string ⟨#[]⟩] 27) = w0 at *
  have HB := Lib.hid HB0.out.1
  have HR := Lib.hid HB0.out.2
  have k0 := K0.out
  have t0 : ((l.length : Int) + 1 == 6) = false := by simp; omega
  have t1 : ¬ ((l.length : Int) + 1 = 6) := by omega
  clear hk
  obtain ⟨⟨r0, r1, r2, r3, r4, r5, r6, r7, r8⟩, g0, g1, g2, g3, g4, g5, g6, g7, g8⟩ := nine_cells HR.out
  go_wp2_with fail
  clear r0 r1 r2 r3 r4 r5 r6 r7 r8 g0 g1 g2 g3 g4 g5 g6 g7 g8
  have HN := Lib.hid (set_nine HR.out (.int .i64 0) (.string ⟨#[]⟩) (.string ⟨#[]⟩) (.slice none 0 0) (.int .i64 0) (.int .i64 0) (.slice none 0 0) (.slice none 0 0) (.string ⟨#[]⟩))
  have HBF := Lib.hid (HB.out.trans (grown_below HN.out.2 (Nat.le_refl _) HB.out.size))
  generalize ((((((((w0.setCell ⟨w.heap.size, 0, none⟩ (.int .i64 0)).setCell ⟨w.heap.size, 1, none⟩ (.string ⟨#[]⟩)).setCell ⟨w.heap.size, 2, none⟩ (.string ⟨#[]⟩)).setCell ⟨w.heap.size, 3, none⟩ (.slice none 0 0)).setCell ⟨w.heap.size, 4, none⟩ (.int .i64 0)).setCell ⟨w.heap.size, 5, none⟩ (.int .i64 0)).setCell ⟨w.heap.size, 6, none⟩ (.slice none 0 0)).setCell ⟨w.heap.size, 7, none⟩ (.slice none 0 0)).setCell ⟨w.heap.size, 8, none⟩ (.string ⟨#[]⟩) = wf at *
  have c := cell_blk HN.out.1
  have v0 := c 0; have v1 := c 1; have v2 := c 2; have v3 := c 3; have v4 := c 4; have v5 := c 5; have v6 := c 6; have v7 := c 7; have v8 := c 8
  simp at v0 v1 v2 v3 v4 v5 v6 v7 v8
  refine bodyPost_ret (v := .agg #[.int .i64 0, .string ⟨#[]⟩, .string ⟨#[]⟩, .slice none 0 0, .int .i64 0, .int .i64 0, .slice none 0 0, .slice none 0 0, .string ⟨#[]⟩]) (by simp [results, Tryz.results52, go_sem, v0, v1, v2, v3, v4, v5, v6, v7, v8]) rfl ?_
  refine ⟨HBF.out, _, ?_, rfl⟩
  rw [HGF.out]
  exact ⟨none, 0, none, 0, rfl, rfl, slv_none _ _, slv_none _ _⟩
set_option maxHeartbeats 8000000 in
set_option maxRecDepth 100000 in
theorem rg_play0 (w : World) (g cap : Nat) (l : List (List UInt8)) (hs : StrAt w g 0 (wPlay :: l)) (hg : g < w.heap.size) (hl : ∀ x ∈ (wPlay :: l), x.length ≤ 4000) (hn : l.length ≤ 10000000) (hk : l.length ≠ 3) :
    Calls Tryz.prog 52 #[.slice (some ⟨g, 0, none⟩) (l.length + 1) cap] w (GsP w (guessF (wPlay :: l))) := by
  have HGF : Hid (guessF (wPlay :: l) = ms0) := by
      rw [Hid]
      simp only [guessF, if_neg (show ¬ wPlay = wStart by decide), if_true]
      split
      · simp at hk
      · rfl
  have HB0 := Lib.hid (one_box w (.cells zMsg 27))
  have K0 := Lib.hid ((HB0.out.1.cell (p := ⟨g, 0, none⟩) hg).trans (hs 0 _ rfl))
  have hx0 : (bs wPlay).toList = wPlay := by rw [ByteArray.toList_eq, toList_bs]
  have HX0 := Lib.hid hx0
  clear hx0
  clear hs hl
  generalize bs wPlay = x0 at *
  have e0 : (x0.toList == [115, 116, 97, 114, 116]) = false := by rw [HX0.out]; rfl
  have e1 : (x0.toList == [112, 108, 97, 121]) = true := by rw [HX0.out]; rfl
  go_enter Tryz.func52, Tryz.ntmps52
  go_upto_region 1 with fail
  have hw0 : w.alloc (.cells zMsg 27) = w.alloc (.cells zMsg 27) := rfl
  clear hw0
  generalize w.alloc (.cells #[.int .i64 0, .string ⟨#[]⟩, .string ⟨#[]⟩, .slice none 0 0, .int .i64 0, .int .i64 0, .slice none 0 0, .slice none 0 0, .string ⟨#[]⟩] 27) = w0 at *
  have HB := Lib.hid HB0.out.1
  have HR := Lib.hid HB0.out.2
  have k0 := K0.out
  have t0 : ((l.length : Int) + 1 == 4) = false := by simp; omega
  have t1 : ¬ ((l.length : Int) + 1 = 4) := by omega
  clear hk
  obtain ⟨⟨r0, r1, r2, r3, r4, r5, r6, r7, r8⟩, g0, g1, g2, g3, g4, g5, g6, g7, g8⟩ := nine_cells HR.out
  go_wp2_with fail
  clear r0 r1 r2 r3 r4 r5 r6 r7 r8 g0 g1 g2 g3 g4 g5 g6 g7 g8
  have HN := Lib.hid (set_nine HR.out (.int .i64 0) (.string ⟨#[]⟩) (.string ⟨#[]⟩) (.slice none 0 0) (.int .i64 0) (.int .i64 0) (.slice none 0 0) (.slice none 0 0) (.string ⟨#[]⟩))
  have HBF := Lib.hid (HB.out.trans (grown_below HN.out.2 (Nat.le_refl _) HB.out.size))
  generalize ((((((((w0.setCell ⟨w.heap.size, 0, none⟩ (.int .i64 0)).setCell ⟨w.heap.size, 1, none⟩ (.string ⟨#[]⟩)).setCell ⟨w.heap.size, 2, none⟩ (.string ⟨#[]⟩)).setCell ⟨w.heap.size, 3, none⟩ (.slice none 0 0)).setCell ⟨w.heap.size, 4, none⟩ (.int .i64 0)).setCell ⟨w.heap.size, 5, none⟩ (.int .i64 0)).setCell ⟨w.heap.size, 6, none⟩ (.slice none 0 0)).setCell ⟨w.heap.size, 7, none⟩ (.slice none 0 0)).setCell ⟨w.heap.size, 8, none⟩ (.string ⟨#[]⟩) = wf at *
  have c := cell_blk HN.out.1
  have v0 := c 0; have v1 := c 1; have v2 := c 2; have v3 := c 3; have v4 := c 4; have v5 := c 5; have v6 := c 6; have v7 := c 7; have v8 := c 8
  simp at v0 v1 v2 v3 v4 v5 v6 v7 v8
  refine bodyPost_ret (v := .agg #[.int .i64 0, .string ⟨#[]⟩, .string ⟨#[]⟩, .slice none 0 0, .int .i64 0, .int .i64 0, .slice none 0 0, .slice none 0 0, .string ⟨#[]⟩]) (by simp [results, Tryz.results52, go_sem, v0, v1, v2, v3, v4, v5, v6, v7, v8]) rfl ?_
  refine ⟨HBF.out, _, ?_, rfl⟩
  rw [HGF.out]
  exact ⟨none, 0, none, 0, rfl, rfl, slv_none _ _, slv_none _ _⟩
set_option maxHeartbeats 8000000 in
set_option maxRecDepth 100000 in
theorem rg_stop0 (w : World) (g cap : Nat) (l : List (List UInt8)) (hs : StrAt w g 0 (wStop :: l)) (hg : g < w.heap.size) (hl : ∀ x ∈ (wStop :: l), x.length ≤ 4000) (hn : l.length ≤ 10000000) (hk : l.length ≠ 3) :
    Calls Tryz.prog 52 #[.slice (some ⟨g, 0, none⟩) (l.length + 1) cap] w (GsP w (guessF (wStop :: l))) := by
  have HGF : Hid (guessF (wStop :: l) = ms0) := by
      rw [Hid]
      simp only [guessF, if_neg (show ¬ wStop = wStart by decide), if_neg (show ¬ wStop = wPlay by decide), if_true]
      split
      · simp at hk
      · rfl
  have HB0 := Lib.hid (one_box w (.cells zMsg 27))
  have K0 := Lib.hid ((HB0.out.1.cell (p := ⟨g, 0, none⟩) hg).trans (hs 0 _ rfl))
  have hx0 : (bs wStop).toList = wStop := by rw [ByteArray.toList_eq, toList_bs]
  have HX0 := Lib.hid hx0
  clear hx0
  clear hs hl
  generalize bs wStop = x0 at *
  have e0 : (x0.toList == [115, 116, 97, 114, 116]) = false := by rw [HX0.out]; rfl
  have e1 : (x0.toList == [112, 108, 97, 121]) = false := by rw [HX0.out]; rfl
  have e2 : (x0.toList == [115, 116, 111, 112]) = true := by rw [HX0.out]; rfl
  go_enter Tryz.func52, Tryz.ntmps52
  go_upto_region 1 with fail
  have hw0 : w.alloc (.cells zMsg 27) = w.alloc (.cells zMsg 27) := rfl
  clear hw0
  generalize w.alloc (.cells #[.int .i64 0, .string ⟨#[]⟩, .string ⟨#[]⟩, .slice none 0 0, .int .i64 0, .int .i64 0, .slice none 0 0, .slice none 0 0, .string ⟨#[]⟩] 27) = w0 at *
  have HB := Lib.hid HB0.out.1
  have HR := Lib.hid HB0.out.2
  have k0 := K0.out
  have t0 : ((l.length : Int) + 1 == 4) = false := by simp; omega
  have t1 : ¬ ((l.length : Int) + 1 = 4) := by omega
  clear hk
  obtain ⟨⟨r0, r1, r2, r3, r4, r5, r6, r7, r8⟩, g0, g1, g2, g3, g4, g5, g6, g7, g8⟩ := nine_cells HR.out
  go_wp2_with fail
  clear r0 r1 r2 r3 r4 r5 r6 r7 r8 g0 g1 g2 g3 g4 g5 g6 g7 g8
  have HN := Lib.hid (set_nine HR.out (.int .i64 0) (.string ⟨#[]⟩) (.string ⟨#[]⟩) (.slice none 0 0) (.int .i64 0) (.int .i64 0) (.slice none 0 0) (.slice none 0 0) (.string ⟨#[]⟩))
  have HBF := Lib.hid (HB.out.trans (grown_below HN.out.2 (Nat.le_refl _) HB.out.size))
  generalize ((((((((w0.setCell ⟨w.heap.size, 0, none⟩ (.int .i64 0)).setCell ⟨w.heap.size, 1, none⟩ (.string ⟨#[]⟩)).setCell ⟨w.heap.size, 2, none⟩ (.string ⟨#[]⟩)).setCell ⟨w.heap.size, 3, none⟩ (.slice none 0 0)).setCell ⟨w.heap.size, 4, none⟩ (.int .i64 0)).setCell ⟨w.heap.size, 5, none⟩ (.int .i64 0)).setCell ⟨w.heap.size, 6, none⟩ (.slice none 0 0)).setCell ⟨w.heap.size, 7, none⟩ (.slice none 0 0)).setCell ⟨w.heap.size, 8, none⟩ (.string ⟨#[]⟩) = wf at *
  have c := cell_blk HN.out.1
  have v0 := c 0; have v1 := c 1; have v2 := c 2; have v3 := c 3; have v4 := c 4; have v5 := c 5; have v6 := c 6; have v7 := c 7; have v8 := c 8
  simp at v0 v1 v2 v3 v4 v5 v6 v7 v8
  refine bodyPost_ret (v := .agg #[.int .i64 0, .string ⟨#[]⟩, .string ⟨#[]⟩, .slice none 0 0, .int .i64 0, .int .i64 0, .slice none 0 0, .slice none 0 0, .string ⟨#[]⟩]) (by simp [results, Tryz.results52, go_sem, v0, v1, v2, v3, v4, v5, v6, v7, v8]) rfl ?_
  refine ⟨HBF.out, _, ?_, rfl⟩
  rw [HGF.out]
  exact ⟨none, 0, none, 0, rfl, rfl, slv_none _ _, slv_none _ _⟩
set_option maxHeartbeats 8000000 in
set_option maxRecDepth 100000 in
theorem rg_abort0 (w : World) (g cap : Nat) (l : List (List UInt8)) (hs : StrAt w g 0 (wAbort :: l)) (hg : g < w.heap.size) (hl : ∀ x ∈ (wAbort :: l), x.length ≤ 4000) (hn : l.length ≤ 10000000) (hk : l.length ≠ 1) :
    Calls Tryz.prog 52 #[.slice (some ⟨g, 0, none⟩) (l.length + 1) cap] w (GsP w (guessF (wAbort :: l))) := by
  have HGF : Hid (guessF (wAbort :: l) = ms0) := by
      rw [Hid]
      simp only [guessF, if_neg (show ¬ wAbort = wStart by decide), if_neg (show ¬ wAbort = wPlay by decide), if_neg (show ¬ wAbort = wStop by decide), if_true]
      split
      · simp at hk
      · rfl
  have HB0 := Lib.hid (one_box w (.cells zMsg 27))
  have K0 := Lib.hid ((HB0.out.1.cell (p := ⟨g, 0, none⟩) hg).trans (hs 0 _ rfl))
  have hx0 : (bs wAbort).toList = wAbort := by rw [ByteArray.toList_eq, toList_bs]
  have HX0 := Lib.hid hx0
  clear hx0
  clear hs hl
  generalize bs wAbort = x0 at *
  have e0 : (x0.toList == [115, 116, 97, 114, 116]) = false := by rw [HX0.out]; rfl
  have e1 : (x0.toList == [112, 108, 97, 121]) = false := by rw [HX0.out]; rfl
  have e2 : (x0.toList == [115, 116, 111, 112]) = false := by rw [HX0.out]; rfl
  have e3 : (x0.toList == [97, 98, 111, 114, 116]) = true := by rw [HX0.out]; rfl
  go_enter Tryz.func52, Tryz.ntmps52
  go_upto_region 1 with fail
  have hw0 : w.alloc (.cells zMsg 27) = w.alloc (.cells zMsg 27) := rfl
  clear hw0
  generalize w.alloc (.cells #[.int .i64 0, .string ⟨#[]⟩, .string ⟨#[]⟩, .slice none 0 0, .int .i64 0, .int .i64 0, .slice none 0 0, .slice none 0 0, .string ⟨#[]⟩] 27) = w0 at *
  have HB := Lib.hid HB0.out.1
  have HR := Lib.hid HB0.out.2
  have k0 := K0.out
  have t0 : ((l.length : Int) + 1 == 2) = false := by simp; omega
  have t1 : ¬ ((l.length : Int) + 1 = 2) := by omega
  clear hk
  obtain ⟨⟨r0, r1, r2, r3, r4, r5, r6, r7, r8⟩, g0, g1, g2, g3, g4, g5, g6, g7, g8⟩ := nine_cells HR.out
  go_wp2_with fail
  clear r0 r1 r2 r3 r4 r5 r6 r7 r8 g0 g1 g2 g3 g4 g5 g6 g7 g8
  have HN := Lib.hid (set_nine HR.out (.int .i64 0) (.string ⟨#[]⟩) (.string ⟨#[]⟩) (.slice none 0 0) (.int .i64 0) (.int .i64 0) (.slice none 0 0) (.slice none 0 0) (.string ⟨#[]⟩))
  have HBF := Lib.hid (HB.out.trans (grown_below HN.out.2 (Nat.le_refl _) HB.out.size))
  generalize ((((((((w0.setCell ⟨w.heap.size, 0, none⟩ (.int .i64 0)).setCell ⟨w.heap.size, 1, none⟩ (.string ⟨#[]⟩)).setCell ⟨w.heap.size, 2, none⟩ (.string ⟨#[]⟩)).setCell ⟨w.heap.size, 3, none⟩ (.slice none 0 0)).setCell ⟨w.heap.size, 4, none⟩ (.int .i64 0)).setCell ⟨w.heap.size, 5, none⟩ (.int .i64 0)).setCell ⟨w.heap.size, 6, none⟩ (.slice none 0 0)).setCell ⟨w.heap.size, 7, none⟩ (.slice none 0 0)).setCell ⟨w.heap.size, 8, none⟩ (.string ⟨#[]⟩) = wf at *
  have c := cell_blk HN.out.1
  have v0 := c 0; have v1 := c 1; have v2 := c 2; have v3 := c 3; have v4 := c 4; have v5 := c 5; have v6 := c 6; have v7 := c 7; have v8 := c 8
  simp at v0 v1 v2 v3 v4 v5 v6 v7 v8
  refine bodyPost_ret (v := .agg #[.int .i64 0, .string ⟨#[]⟩, .string ⟨#[]⟩, .slice none 0 0, .int .i64 0, .int .i64 0, .slice none 0 0, .slice none 0 0, .string ⟨#[]⟩]) (by simp [results, Tryz.results52, go_sem, v0, v1, v2, v3, v4, v5, v6, v7, v8]) rfl ?_
  refine ⟨HBF.out, _, ?_, rfl⟩
  rw [HGF.out]
  exact ⟨none, 0, none, 0, rfl, rfl, slv_none _ _, slv_none _ _⟩
set_option maxHeartbeats 8000000 in
set_option maxRecDepth 100000 in
theorem rg_move0 (w : World) (g cap : Nat) (l : List (List UInt8)) (hs : StrAt w g 0 (wMove :: l)) (hg : g < w.heap.size) (hl : ∀ x ∈ (wMove :: l), x.length ≤ 4000) (hn : l.length ≤ 10000000) (hk : l.length ≠ 1) :
    Calls Tryz.prog 52 #[.slice (some ⟨g, 0, none⟩) (l.length + 1) cap] w (GsP w (guessF (wMove :: l))) := by
  have HGF : Hid (guessF (wMove :: l) = ms0) := by
      rw [Hid]
      simp only [guessF, if_neg (show ¬ wMove = wStart by decide), if_neg (show ¬ wMove = wPlay by decide), if_neg (show ¬ wMove = wStop by decide), if_neg (show ¬ wMove = wAbort by decide), if_neg (show ¬ wMove = wReady by decide), if_true]
      split
      · simp at hk
      · rfl
  have HB0 := Lib.hid (one_box w (.cells zMsg 27))
  have K0 := Lib.hid ((HB0.out.1.cell (p := ⟨g, 0, none⟩) hg).trans (hs 0 _ rfl))
  have hx0 : (bs wMove).toList = wMove := by rw [ByteArray.toList_eq, toList_bs]
  have HX0 := Lib.hid hx0
  clear hx0
  clear hs hl
  generalize bs wMove = x0 at *
  have e0 : (x0.toList == [115, 116, 97, 114, 116]) = false := by rw [HX0.out]; rfl
  have e1 : (x0.toList == [112, 108, 97, 121]) = false := by rw [HX0.out]; rfl
  have e2 : (x0.toList == [115, 116, 111, 112]) = false := by rw [HX0.out]; rfl
  have e3 : (x0.toList == [97, 98, 111, 114, 116]) = false := by rw [HX0.out]; rfl
  have e4 : (x0.toList == [114, 101, 97, 100, 121]) = false := by rw [HX0.out]; rfl
  have e5 : (x0.toList == [109, 111, 118, 101]) = true := by rw [HX0.out]; rfl
  go_enter Tryz.func52, Tryz.ntmps52
  go_upto_region 1 with fail
  have hw0 : w.alloc (.cells zMsg 27) = w.alloc (.cells zMsg 27) := rfl
  clear hw0
  generalize w.alloc (.cells #[.int .i64 0, .string ⟨#[]⟩, .string ⟨#[]⟩, .slice none 0 0, .int .i64 0, .int .i64 0, .slice none 0 0, .slice none 0 0, .string ⟨#[]⟩] 27) = w0 at *
  have HB := Lib.hid HB0.out.1
  have HR := Lib.hid HB0.out.2
  have k0 := K0.out
  have t0 : ((l.length : Int) + 1 == 2) = false := by simp; omega
  have t1 : ¬ ((l.length : Int) + 1 = 2) := by omega
  clear hk
  obtain ⟨⟨r0, r1, r2, r3, r4, r5, r6, r7, r8⟩, g0, g1, g2, g3, g4, g5, g6, g7, g8⟩ := nine_cells HR.out
  go_wp2_with fail
  clear r0 r1 r2 r3 r4 r5 r6 r7 r8 g0 g1 g2 g3 g4 g5 g6 g7 g8
  have HN := Lib.hid (set_nine HR.out (.int .i64 0) (.string ⟨#[]⟩) (.string ⟨#[]⟩) (.slice none 0 0) (.int .i64 0) (.int .i64 0) (.slice none 0 0) (.slice none 0 0) (.string ⟨#[]⟩))
  have HBF := Lib.hid (HB.out.trans (grown_below HN.out.2 (Nat.le_refl _) HB.out.size))
  generalize ((((((((w0.setCell ⟨w.heap.size, 0, none⟩ (.int .i64 0)).setCell ⟨w.heap.size, 1, none⟩ (.string ⟨#[]⟩)).setCell ⟨w.heap.size, 2, none⟩ (.string ⟨#[]⟩)).setCell ⟨w.heap.size, 3, none⟩ (.slice none 0 0)).setCell ⟨w.heap.size, 4, none⟩ (.int .i64 0)).setCell ⟨w.heap.size, 5, none⟩ (.int .i64 0)).setCell ⟨w.heap.size, 6, none⟩ (.slice none 0 0)).setCell ⟨w.heap.size, 7, none⟩ (.slice none 0 0)).setCell ⟨w.heap.size, 8, none⟩ (.string ⟨#[]⟩) = wf at *
  have c := cell_blk HN.out.1
  have v0 := c 0; have v1 := c 1; have v2 := c 2; have v3 := c 3; have v4 := c 4; have v5 := c 5; have v6 := c 6; have v7 := c 7; have v8 := c 8
  simp at v0 v1 v2 v3 v4 v5 v6 v7 v8
  refine bodyPost_ret (v := .agg #[.int .i64 0, .string ⟨#[]⟩, .string ⟨#[]⟩, .slice none 0 0, .int .i64 0, .int .i64 0, .slice none 0 0, .slice none 0 0, .string ⟨#[]⟩]) (by simp [results, Tryz.results52, go_sem, v0, v1, v2, v3, v4, v5, v6, v7, v8]) rfl ?_
  refine ⟨HBF.out, _, ?_, rfl⟩
  rw [HGF.out]
  exact ⟨none, 0, none, 0, rfl, rfl, slv_none _ _, slv_none _ _⟩
set_option maxHeartbeats 8000000 in
set_option maxRecDepth 100000 in
theorem rg_other (w : World) (g cap : Nat) (k : List UInt8) (l : List (List UInt8)) (hs : StrAt w g 0 (k :: l)) (hg : g < w.heap.size) (hl : ∀ x ∈ (k :: l), x.length ≤ 4000) (hn : l.length ≤ 10000000) (h0 : k ≠ wStart) (h1 : k ≠ wPlay) (h2 : k ≠ wStop) (h3 : k ≠ wAbort) (h4 : k ≠ wReady) (h5 : k ≠ wMove) (h6 : k ≠ wDone) :
    Calls Tryz.prog 52 #[.slice (some ⟨g, 0, none⟩) (l.length + 1) cap] w (GsP w (guessF (k :: l))) := by
  have HGF : Hid (guessF (k :: l) = ms0) := by rw [Hid]; simp only [guessF, if_neg h0, if_neg h1, if_neg h2, if_neg h3, if_neg h4, if_neg h5, if_neg h6]
  have HB0 := Lib.hid (one_box w (.cells zMsg 27))
  have K0 := Lib.hid ((HB0.out.1.cell (p := ⟨g, 0, none⟩) hg).trans (hs 0 _ rfl))
  have hx0 : (bs k).toList = k := by rw [ByteArray.toList_eq, toList_bs]
  have HX0 := Lib.hid hx0
  clear hx0
  clear hs hl
  generalize bs k = x0 at *
  have e0 : (x0.toList == [115, 116, 97, 114, 116]) = false := by rw [HX0.out]; exact beq_eq_false_iff_ne.2 h0
  have e1 : (x0.toList == [112, 108, 97, 121]) = false := by rw [HX0.out]; exact beq_eq_false_iff_ne.2 h1
  have e2 : (x0.toList == [115, 116, 111, 112]) = false := by rw [HX0.out]; exact beq_eq_false_iff_ne.2 h2
  have e3 : (x0.toList == [97, 98, 111, 114, 116]) = false := by rw [HX0.out]; exact beq_eq_false_iff_ne.2 h3
  have e4 : (x0.toList == [114, 101, 97, 100, 121]) = false := by rw [HX0.out]; exact beq_eq_false_iff_ne.2 h4
  have e5 : (x0.toList == [109, 111, 118, 101]) = false := by rw [HX0.out]; exact beq_eq_false_iff_ne.2 h5
  have e6 : (x0.toList == [100, 111, 110, 101]) = false := by rw [HX0.out]; exact beq_eq_false_iff_ne.2 h6
  go_enter Tryz.func52, Tryz.ntmps52
  go_upto_region 1 with fail
  have hw0 : w.alloc (.cells zMsg 27) = w.alloc (.cells zMsg 27) := rfl
  clear hw0
  generalize w.alloc (.cells #[.int .i64 0, .string ⟨#[]⟩, .string ⟨#[]⟩, .slice none 0 0, .int .i64 0, .int .i64 0, .slice none 0 0, .slice none 0 0, .string ⟨#[]⟩] 27) = w0 at *
  have HB := Lib.hid HB0.out.1
  have HR := Lib.hid HB0.out.2
  have k0 := K0.out
  obtain ⟨⟨r0, r1, r2, r3, r4, r5, r6, r7, r8⟩, g0, g1, g2, g3, g4, g5, g6, g7, g8⟩ := nine_cells HR.out
  go_wp2_with fail
  clear r0 r1 r2 r3 r4 r5 r6 r7 r8 g0 g1 g2 g3 g4 g5 g6 g7 g8
  have HN := Lib.hid (set_nine HR.out (.int .i64 0) (.string ⟨#[]⟩) (.string ⟨#[]⟩) (.slice none 0 0) (.int .i64 0) (.int .i64 0) (.slice none 0 0) (.slice none 0 0) (.string ⟨#[]⟩))
  have HBF := Lib.hid (HB.out.trans (grown_below HN.out.2 (Nat.le_refl _) HB.out.size))
  generalize ((((((((w0.setCell ⟨w.heap.size, 0, none⟩ (.int .i64 0)).setCell ⟨w.heap.size, 1, none⟩ (.string ⟨#[]⟩)).setCell ⟨w.heap.size, 2, none⟩ (.string ⟨#[]⟩)).setCell ⟨w.heap.size, 3, none⟩ (.slice none 0 0)).setCell ⟨w.heap.size, 4, none⟩ (.int .i64 0)).setCell ⟨w.heap.size, 5, none⟩ (.int .i64 0)).setCell ⟨w.heap.size, 6, none⟩ (.slice none 0 0)).setCell ⟨w.heap.size, 7, none⟩ (.slice none 0 0)).setCell ⟨w.heap.size, 8, none⟩ (.string ⟨#[]⟩) = wf at *
  have c := cell_blk HN.out.1
  have v0 := c 0; have v1 := c 1; have v2 := c 2; have v3 := c 3; have v4 := c 4; have v5 := c 5; have v6 := c 6; have v7 := c 7; have v8 := c 8
  simp at v0 v1 v2 v3 v4 v5 v6 v7 v8
  refine bodyPost_ret (v := .agg #[.int .i64 0, .string ⟨#[]⟩, .string ⟨#[]⟩, .slice none 0 0, .int .i64 0, .int .i64 0, .slice none 0 0, .slice none 0 0, .string ⟨#[]⟩]) (by simp [results, Tryz.results52, go_sem, v0, v1, v2, v3, v4, v5, v6, v7, v8]) rfl ?_
  refine ⟨HBF.out, _, ?_, rfl⟩
  rw [HGF.out]
  exact ⟨none, 0, none, 0, rfl, rfl, slv_none _ _, slv_none _ _⟩
set_option maxHeartbeats 8000000 in
set_option maxRecDepth 100000 in
theorem rg_move (w : World) (g cap : Nat) (a : List UInt8) (hs : StrAt w g 0 ([wMove, a])) (hg : g < w.heap.size) (hl : ∀ x ∈ ([wMove, a]), x.length ≤ 4000) :
    Calls Tryz.prog 52 #[.slice (some ⟨g, 0, none⟩) 2 cap] w (GsP w (guessF ([wMove, a]))) := by
  have HGF : Hid (guessF ([wMove, a]) = ⟨6, [], .mk [] [], 0, 0, termsR a, [], []⟩) := by rw [Hid]; simp only [guessF, if_neg (show ¬ wMove = wStart by decide), if_neg (show ¬ wMove = wPlay by decide), if_neg (show ¬ wMove = wStop by decide), if_neg (show ¬ wMove = wAbort by decide), if_neg (show ¬ wMove = wReady by decide), if_true]
  have HB0 := Lib.hid (one_box w (.cells zMsg 27))
  have K0 := Lib.hid ((HB0.out.1.cell (p := ⟨g, 0, none⟩) hg).trans (hs 0 _ rfl))
  have K1 := Lib.hid ((HB0.out.1.cell (p := ⟨g, 1, none⟩) hg).trans ((show w.cell? ⟨g, 1, none⟩ = w.cell? ⟨g, 0 + 1, none⟩ by rw [Nat.zero_add]).trans (hs 1 _ rfl)))
  have hx0 : (bs wMove).toList = wMove := by rw [ByteArray.toList_eq, toList_bs]
  have HX0 := Lib.hid hx0
  clear hx0
  have hl1 : (bs a).size ≤ 4000 := by rw [size_bs]; exact hl a (by simp)
  clear hs hl
  generalize bs wMove = x0 at *
  have e0 : (x0.toList == [115, 116, 97, 114, 116]) = false := by rw [HX0.out]; rfl
  have e1 : (x0.toList == [112, 108, 97, 121]) = false := by rw [HX0.out]; rfl
  have e2 : (x0.toList == [115, 116, 111, 112]) = false := by rw [HX0.out]; rfl
  have e3 : (x0.toList == [97, 98, 111, 114, 116]) = false := by rw [HX0.out]; rfl
  have e4 : (x0.toList == [114, 101, 97, 100, 121]) = false := by rw [HX0.out]; rfl
  have e5 : (x0.toList == [109, 111, 118, 101]) = true := by rw [HX0.out]; rfl
  go_enter Tryz.func52, Tryz.ntmps52
  go_upto_region 1 with fail
  have hw0 : w.alloc (.cells zMsg 27) = w.alloc (.cells zMsg 27) := rfl
  clear hw0
  generalize w.alloc (.cells #[.int .i64 0, .string ⟨#[]⟩, .string ⟨#[]⟩, .slice none 0 0, .int .i64 0, .int .i64 0, .slice none 0 0, .slice none 0 0, .string ⟨#[]⟩] 27) = w0 at *
  have HB := Lib.hid HB0.out.1
  have HR := Lib.hid HB0.out.2
  have k0 := K0.out
  have k1 := K1.out
  have CT := Lib.hid (fun y : World => rterms_any y (bs a) (by omega))
  rw [toList_bs] at CT
  generalize termsR a = m1 at *
  generalize bs a = x1 at *
  go_wp2_with fail
  refine (CT.out w0).mono ?_
  rintro e w1 ⟨hb, A1, c1, rfl, hs1⟩
  replace HR := Lib.hid ((hb.block _ (heap_lt HR.out)).trans HR.out)
  replace HB := Lib.hid (HB.out.trans (hb.mono HB.out.size))
  have HS1 := Lib.hid (slv_up (B' := w.heap.size + 1) hs1 (heap_lt HB0.out.2))
  clear hb hs1 CT k0 k1
  obtain ⟨⟨r0, r1, r2, r3, r4, r5, r6, r7, r8⟩, g0, g1, g2, g3, g4, g5, g6, g7, g8⟩ := nine_cells HR.out
  go_wp2_with fail
  clear r0 r1 r2 r3 r4 r5 r6 r7 r8 g0 g1 g2 g3 g4 g5 g6 g7 g8
  have HN := Lib.hid (set_nine HR.out (.int .i64 6) (.string ⟨#[]⟩) (.string ⟨#[]⟩) (.slice none 0 0) (.int .i64 0) (.int .i64 0) (.slice A1 m1.length c1) (.slice none 0 0) (.string ⟨#[]⟩))
  have HBF := Lib.hid (HB.out.trans (grown_below HN.out.2 (Nat.le_refl _) HB.out.size))
  have HS1' := Lib.hid (slv_set HS1.out HN.out.2)
  generalize ((((((((w1.setCell ⟨w.heap.size, 0, none⟩ (.int .i64 6)).setCell ⟨w.heap.size, 1, none⟩ (.string ⟨#[]⟩)).setCell ⟨w.heap.size, 2, none⟩ (.string ⟨#[]⟩)).setCell ⟨w.heap.size, 3, none⟩ (.slice none 0 0)).setCell ⟨w.heap.size, 4, none⟩ (.int .i64 0)).setCell ⟨w.heap.size, 5, none⟩ (.int .i64 0)).setCell ⟨w.heap.size, 6, none⟩ (.slice A1 m1.length c1)).setCell ⟨w.heap.size, 7, none⟩ (.slice none 0 0)).setCell ⟨w.heap.size, 8, none⟩ (.string ⟨#[]⟩) = wf at *
  have c := cell_blk HN.out.1
  have v0 := c 0; have v1 := c 1; have v2 := c 2; have v3 := c 3; have v4 := c 4; have v5 := c 5; have v6 := c 6; have v7 := c 7; have v8 := c 8
  simp at v0 v1 v2 v3 v4 v5 v6 v7 v8
  refine bodyPost_ret (v := .agg #[.int .i64 6, .string ⟨#[]⟩, .string ⟨#[]⟩, .slice none 0 0, .int .i64 0, .int .i64 0, .slice A1 m1.length c1, .slice none 0 0, .string ⟨#[]⟩]) (by simp [results, Tryz.results52, go_sem, v0, v1, v2, v3, v4, v5, v6, v7, v8]) rfl ?_
  refine ⟨HBF.out, _, ?_, rfl⟩
  rw [HGF.out]
  exact ⟨A1, c1, none, 0, rfl, rfl, HS1'.out, slv_none _ _⟩
set_option maxHeartbeats 8000000 in
set_option maxRecDepth 100000 in
theorem rg_play (w : World) (g cap : Nat) (a b c : List UInt8) (hs : StrAt w g 0 ([wPlay, a, b, c])) (hg : g < w.heap.size) (hl : ∀ x ∈ ([wPlay, a, b, c]), x.length ≤ 4000) :
    Calls Tryz.prog 52 #[.slice (some ⟨g, 0, none⟩) 4 cap] w (GsP w (guessF ([wPlay, a, b, c]))) := by
  have HGF : Hid (guessF ([wPlay, a, b, c]) = ⟨2, a, .mk [] [], 0, 0, termsR b, termsR c, []⟩) := by rw [Hid]; simp only [guessF, if_neg (show ¬ wPlay = wStart by decide), if_true]
  have HB0 := Lib.hid (one_box w (.cells zMsg 27))
  have K0 := Lib.hid ((HB0.out.1.cell (p := ⟨g, 0, none⟩) hg).trans (hs 0 _ rfl))
  have K1 := Lib.hid ((HB0.out.1.cell (p := ⟨g, 1, none⟩) hg).trans ((show w.cell? ⟨g, 1, none⟩ = w.cell? ⟨g, 0 + 1, none⟩ by rw [Nat.zero_add]).trans (hs 1 _ rfl)))
  have K2 := Lib.hid ((HB0.out.1.cell (p := ⟨g, 2, none⟩) hg).trans ((show w.cell? ⟨g, 2, none⟩ = w.cell? ⟨g, 0 + 2, none⟩ by rw [Nat.zero_add]).trans (hs 2 _ rfl)))
  have K3 := Lib.hid ((HB0.out.1.cell (p := ⟨g, 3, none⟩) hg).trans ((show w.cell? ⟨g, 3, none⟩ = w.cell? ⟨g, 0 + 3, none⟩ by rw [Nat.zero_add]).trans (hs 3 _ rfl)))
  have hx0 : (bs wPlay).toList = wPlay := by rw [ByteArray.toList_eq, toList_bs]
  have HX0 := Lib.hid hx0
  clear hx0
  have hl1 : (bs a).size ≤ 4000 := by rw [size_bs]; exact hl a (by simp)
  have hl2 : (bs b).size ≤ 4000 := by rw [size_bs]; exact hl b (by simp)
  have hl3 : (bs c).size ≤ 4000 := by rw [size_bs]; exact hl c (by simp)
  clear hs hl
  generalize bs wPlay = x0 at *
  have e0 : (x0.toList == [115, 116, 97, 114, 116]) = false := by rw [HX0.out]; rfl
  have e1 : (x0.toList == [112, 108, 97, 121]) = true := by rw [HX0.out]; rfl
  go_enter Tryz.func52, Tryz.ntmps52
  go_upto_region 1 with fail
  have hw0 : w.alloc (.cells zMsg 27) = w.alloc (.cells zMsg 27) := rfl
  clear hw0
  generalize w.alloc (.cells #[.int .i64 0, .string ⟨#[]⟩, .string ⟨#[]⟩, .slice none 0 0, .int .i64 0, .int .i64 0, .slice none 0 0, .slice none 0 0, .string ⟨#[]⟩] 27) = w0 at *
  have HB := Lib.hid HB0.out.1
  have HR := Lib.hid HB0.out.2
  have k0 := K0.out
  have CT2 := Lib.hid (fun y : World => rterms_any y (bs b) (by omega))
  have CT3 := Lib.hid (fun y : World => rterms_any y (bs c) (by omega))
  rw [toList_bs] at CT2 CT3
  generalize termsR b = m1 at *
  generalize termsR c = m2 at *
  generalize hx1 : bs a = x1 at *
  have HX1 := Lib.hid hx1
  clear hx1
  generalize bs b = x2 at *
  generalize bs c = x3 at *
  have HBZ := Lib.hid HB.out.size
  go_wp2_with fail
  refine wp_region_held_drew (S := fun y => Below w.heap.size w0 y) (by kernel_rfl) (Below.drew (Below.refl _ _)) (fun hHeld => ?_)
  have HRd : Hid (w0.drew.heap[w.heap.size]? = some (.cells zMsg 27 (0, 0))) := HR.out
  have HBd : Hid (Below w.heap.size w w0.drew) := HB.out.drew
  clear HR HB
  have HR := HRd
  have HB := HBd
  clear HRd HBd
  generalize w0.drew = wd at *
  refine held_take (i := 0) (by rfl) (by kernel_rfl) (by kernel_rfl) (by kernel_rfl) (by intro c a w h; exact h) (by rfl) (by intro w' hSw; go_simp; try with_reducible rfl) hHeld ?_
  try simp only [Act.put, List.setIfInBounds_toArray, List.set_cons_zero, List.set_cons_succ]
  refine held_take (i := 1) (by rfl) (by kernel_rfl) (by kernel_rfl) (by kernel_rfl) (by intro c a w h; exact h) (by rfl) (by intro w' hSw; go_simp; try with_reducible rfl) hHeld ?_
  try simp only [Act.put, List.setIfInBounds_toArray, List.set_cons_zero, List.set_cons_succ]
  refine held_take (i := 2) (by rfl) (by kernel_rfl) (by kernel_rfl) (by kernel_rfl) (by intro c a w h; exact h) (by rfl) (by intro w' hSw; have s1 := (hSw.cell (p := ⟨g, 1, none⟩) hg).trans K1.out; go_simp; try with_reducible rfl) hHeld ?_
  try simp only [Act.put, List.setIfInBounds_toArray, List.set_cons_zero, List.set_cons_succ]
  refine held_take (i := 3) (by rfl) (by kernel_rfl) (by kernel_rfl) (by kernel_rfl) (by intro c a w h; exact h) (by rfl) (by intro w' hSw; go_simp; try with_reducible rfl) hHeld ?_
  try simp only [Act.put, List.setIfInBounds_toArray, List.set_cons_zero, List.set_cons_succ]
  refine held_take (i := 4) (by rfl) (by kernel_rfl) (by kernel_rfl) (by kernel_rfl) (by intro c a w h; exact h) (by rfl) (by intro w' hSw; go_simp; try with_reducible rfl) hHeld ?_
  try simp only [Act.put, List.setIfInBounds_toArray, List.set_cons_zero, List.set_cons_succ]
  refine held_take (i := 5) (by rfl) (by kernel_rfl) (by kernel_rfl) (by kernel_rfl) (by intro c a w h; exact h) (by rfl) (by intro w' hSw; have s2 := (hSw.cell (p := ⟨g, 2, none⟩) hg).trans K2.out; go_simp; try with_reducible rfl) hHeld ?_
  try simp only [Act.put, List.setIfInBounds_toArray, List.set_cons_zero, List.set_cons_succ]
  refine held_take (i := 7) (by rfl) (by kernel_rfl) (by kernel_rfl) (by kernel_rfl) (by intro c a w h; exact h) (by rfl) (by intro w' hSw; go_simp; try with_reducible rfl) hHeld ?_
  try simp only [Act.put, List.setIfInBounds_toArray, List.set_cons_zero, List.set_cons_succ]
  refine held_take (i := 8) (by rfl) (by kernel_rfl) (by kernel_rfl) (by kernel_rfl) (by intro c a w h; exact h) (by rfl) (by intro w' hSw; go_simp; try with_reducible rfl) hHeld ?_
  try simp only [Act.put, List.setIfInBounds_toArray, List.set_cons_zero, List.set_cons_succ]
  refine held_take (i := 9) (by rfl) (by kernel_rfl) (by kernel_rfl) (by kernel_rfl) (by intro c a w h; exact h) (by rfl) (by intro w' hSw; have s3 := (hSw.cell (p := ⟨g, 3, none⟩) hg).trans K3.out; go_simp; try with_reducible rfl) hHeld ?_
  try simp only [Act.put, List.setIfInBounds_toArray, List.set_cons_zero, List.set_cons_succ]
  refine wpAnyH_ready (rs := [6]) (by kernel_rfl) (by simp) ?_
  refine held_one (by rfl) (fun K hK => ?_)
  go_simp
  refine (CT2.out _).mono ?_
  rintro e9 w5 ⟨hb9, A1, c1, rfl, hs1⟩
  have HS1 := Lib.hid (slv_up (B' := w.heap.size + 1) hs1 (heap_lt HR.out))
  refine hK.out _ _ (hHeld.trans (hb9.mono (Nat.le_trans HBZ.out hHeld.size))) (fun hHeld9 => ?_)
  clear hHeld hK K
  have hHeld := hHeld9
  clear hHeld9
  try simp only [Act.put, List.setIfInBounds_toArray, List.set_cons_zero, List.set_cons_succ]
  replace HR := Lib.hid ((hb9.block _ (heap_lt HR.out)).trans HR.out)
  replace HB := Lib.hid (HB.out.trans (hb9.mono HB.out.size))
  clear hb9 hs1 CT2
  refine wpAnyH_ready (rs := [10]) (by kernel_rfl) (by simp) ?_
  refine held_one (by rfl) (fun K hK => ?_)
  go_simp
  refine (CT3.out _).mono ?_
  rintro e9 w9 ⟨hb9, A2, c2, rfl, hs2⟩
  have HS2 := Lib.hid (slv_up (B' := w.heap.size + 1) hs2 (heap_lt HR.out))
  replace HS1 := Lib.hid (slv_off HS1.out hb9)
  refine hK.out _ _ (hHeld.trans (hb9.mono (Nat.le_trans HBZ.out hHeld.size))) (fun hHeld9 => ?_)
  clear hHeld hK K
  have hHeld := hHeld9
  clear hHeld9
  try simp only [Act.put, List.setIfInBounds_toArray, List.set_cons_zero, List.set_cons_succ]
  replace HR := Lib.hid ((hb9.block _ (heap_lt HR.out)).trans HR.out)
  replace HB := Lib.hid (HB.out.trans (hb9.mono HB.out.size))
  clear hb9 hs2 CT3
  refine held_take (i := 11) (by rfl) (by kernel_rfl) (by kernel_rfl) (by kernel_rfl) (by intro c a w h; exact h) (by rfl) (by intro w' hSw; go_simp; try with_reducible rfl) hHeld ?_
  try simp only [Act.put, List.setIfInBounds_toArray, List.set_cons_zero, List.set_cons_succ]
  obtain ⟨⟨r0, r1, r2, r3, r4, r5, r6, r7, r8⟩, g0, g1, g2, g3, g4, g5, g6, g7, g8⟩ := nine_cells HR.out
  refine wpAnyH_ready (rs := [12]) (by kernel_rfl) (by simp) ?_
  refine held_one (by rfl) (fun K hK => ?_)
  go_simp
  clear r0 r1 r2 r3 r4 r5 r6 r7 r8 g0 g1 g2 g3 g4 g5 g6 g7 g8
  have HN := Lib.hid (set_nine HR.out (.int .i64 2) (.string x1) (.string ⟨#[]⟩) (.slice none 0 0) (.int .i64 0) (.int .i64 0) (.slice A1 m1.length c1) (.slice A2 m2.length c2) (.string ⟨#[]⟩))
  have HBF := Lib.hid (HB.out.trans (grown_below HN.out.2 (Nat.le_refl _) HB.out.size))
  have HS1' := Lib.hid (slv_set HS1.out HN.out.2)
  have HS2' := Lib.hid (slv_set HS2.out HN.out.2)
  refine hK.out _ _ (hHeld.trans (grown_below HN.out.2 (Nat.le_refl _) HB.out.size)) (fun hHeld9 => ?_)
  clear hHeld hK K
  have hHeld := hHeld9
  clear hHeld9
  try simp only [Act.put, List.setIfInBounds_toArray, List.set_cons_zero, List.set_cons_succ]
  refine wpAnyH_done (by kernel_rfl) ?_ _
  go_wp2_with fail
  generalize ((((((((w9.setCell ⟨w.heap.size, 0, none⟩ (.int .i64 2)).setCell ⟨w.heap.size, 1, none⟩ (.string x1)).setCell ⟨w.heap.size, 2, none⟩ (.string ⟨#[]⟩)).setCell ⟨w.heap.size, 3, none⟩ (.slice none 0 0)).setCell ⟨w.heap.size, 4, none⟩ (.int .i64 0)).setCell ⟨w.heap.size, 5, none⟩ (.int .i64 0)).setCell ⟨w.heap.size, 6, none⟩ (.slice A1 m1.length c1)).setCell ⟨w.heap.size, 7, none⟩ (.slice A2 m2.length c2)).setCell ⟨w.heap.size, 8, none⟩ (.string ⟨#[]⟩) = wf at *
  have c := cell_blk HN.out.1
  have v0 := c 0; have v1 := c 1; have v2 := c 2; have v3 := c 3; have v4 := c 4; have v5 := c 5; have v6 := c 6; have v7 := c 7; have v8 := c 8
  simp at v0 v1 v2 v3 v4 v5 v6 v7 v8
  refine bodyPost_ret (v := .agg #[.int .i64 2, .string x1, .string ⟨#[]⟩, .slice none 0 0, .int .i64 0, .int .i64 0, .slice A1 m1.length c1, .slice A2 m2.length c2, .string ⟨#[]⟩]) (by simp [results, Tryz.results52, go_sem, v0, v1, v2, v3, v4, v5, v6, v7, v8]) rfl ?_
  refine ⟨HBF.out, _, ?_, rfl⟩
  rw [HGF.out]
  obtain rfl := HX1.out
  exact ⟨A1, c1, A2, c2, rfl, rfl, HS1'.out, HS2'.out⟩
set_option maxHeartbeats 8000000 in
set_option maxRecDepth 100000 in
theorem rg_stop (w : World) (g cap : Nat) (a b c : List UInt8) (hs : StrAt w g 0 ([wStop, a, b, c])) (hg : g < w.heap.size) (hl : ∀ x ∈ ([wStop, a, b, c]), x.length ≤ 4000) :
    Calls Tryz.prog 52 #[.slice (some ⟨g, 0, none⟩) 4 cap] w (GsP w (guessF ([wStop, a, b, c]))) := by
  have HGF : Hid (guessF ([wStop, a, b, c]) = ⟨3, a, .mk [] [], 0, 0, termsR b, termsR c, []⟩) := by rw [Hid]; simp only [guessF, if_neg (show ¬ wStop = wStart by decide), if_neg (show ¬ wStop = wPlay by decide), if_true]
  have HB0 := Lib.hid (one_box w (.cells zMsg 27))
  have K0 := Lib.hid ((HB0.out.1.cell (p := ⟨g, 0, none⟩) hg).trans (hs 0 _ rfl))
  have K1 := Lib.hid ((HB0.out.1.cell (p := ⟨g, 1, none⟩) hg).trans ((show w.cell? ⟨g, 1, none⟩ = w.cell? ⟨g, 0 + 1, none⟩ by rw [Nat.zero_add]).trans (hs 1 _ rfl)))
  have K2 := Lib.hid ((HB0.out.1.cell (p := ⟨g, 2, none⟩) hg).trans ((show w.cell? ⟨g, 2, none⟩ = w.cell? ⟨g, 0 + 2, none⟩ by rw [Nat.zero_add]).trans (hs 2 _ rfl)))
  have K3 := Lib.hid ((HB0.out.1.cell (p := ⟨g, 3, none⟩) hg).trans ((show w.cell? ⟨g, 3, none⟩ = w.cell? ⟨g, 0 + 3, none⟩ by rw [Nat.zero_add]).trans (hs 3 _ rfl)))
  have hx0 : (bs wStop).toList = wStop := by rw [ByteArray.toList_eq, toList_bs]
  have HX0 := Lib.hid hx0
  clear hx0
  have hl1 : (bs a).size ≤ 4000 := by rw [size_bs]; exact hl a (by simp)
  have hl2 : (bs b).size ≤ 4000 := by rw [size_bs]; exact hl b (by simp)
  have hl3 : (bs c).size ≤ 4000 := by rw [size_bs]; exact hl c (by simp)
  clear hs hl
  generalize bs wStop = x0 at *
  have e0 : (x0.toList == [115, 116, 97, 114, 116]) = false := by rw [HX0.out]; rfl
  have e1 : (x0.toList == [112, 108, 97, 121]) = false := by rw [HX0.out]; rfl
  have e2 : (x0.toList == [115, 116, 111, 112]) = true := by rw [HX0.out]; rfl
  go_enter Tryz.func52, Tryz.ntmps52
  go_upto_region 1 with fail
  have hw0 : w.alloc (.cells zMsg 27) = w.alloc (.cells zMsg 27) := rfl
  clear hw0
  generalize w.alloc (.cells #[.int .i64 0, .string ⟨#[]⟩, .string ⟨#[]⟩, .slice none 0 0, .int .i64 0, .int .i64 0, .slice none 0 0, .slice none 0 0, .string ⟨#[]⟩] 27) = w0 at *
  have HB := Lib.hid HB0.out.1
  have HR := Lib.hid HB0.out.2
  have k0 := K0.out
  have CT2 := Lib.hid (fun y : World => rterms_any y (bs b) (by omega))
  have CT3 := Lib.hid (fun y : World => rterms_any y (bs c) (by omega))
  rw [toList_bs] at CT2 CT3
  generalize termsR b = m1 at *
  generalize termsR c = m2 at *
  generalize hx1 : bs a = x1 at *
  have HX1 := Lib.hid hx1
  clear hx1
  generalize bs b = x2 at *
  generalize bs c = x3 at *
  have HBZ := Lib.hid HB.out.size
  go_wp2_with fail
  refine wp_region_held_drew (S := fun y => Below w.heap.size w0 y) (by kernel_rfl) (Below.drew (Below.refl _ _)) (fun hHeld => ?_)
  have HRd : Hid (w0.drew.heap[w.heap.size]? = some (.cells zMsg 27 (0, 0))) := HR.out
  have HBd : Hid (Below w.heap.size w w0.drew) := HB.out.drew
  clear HR HB
  have HR := HRd
  have HB := HBd
  clear HRd HBd
  generalize w0.drew = wd at *
  refine held_take (i := 0) (by rfl) (by kernel_rfl) (by kernel_rfl) (by kernel_rfl) (by intro c a w h; exact h) (by rfl) (by intro w' hSw; go_simp; try with_reducible rfl) hHeld ?_
  try simp only [Act.put, List.setIfInBounds_toArray, List.set_cons_zero, List.set_cons_succ]
  refine held_take (i := 1) (by rfl) (by kernel_rfl) (by kernel_rfl) (by kernel_rfl) (by intro c a w h; exact h) (by rfl) (by intro w' hSw; go_simp; try with_reducible rfl) hHeld ?_
  try simp only [Act.put, List.setIfInBounds_toArray, List.set_cons_zero, List.set_cons_succ]
  refine held_take (i := 2) (by rfl) (by kernel_rfl) (by kernel_rfl) (by kernel_rfl) (by intro c a w h; exact h) (by rfl) (by intro w' hSw; have s1 := (hSw.cell (p := ⟨g, 1, none⟩) hg).trans K1.out; go_simp; try with_reducible rfl) hHeld ?_
  try simp only [Act.put, List.setIfInBounds_toArray, List.set_cons_zero, List.set_cons_succ]
  refine held_take (i := 3) (by rfl) (by kernel_rfl) (by kernel_rfl) (by kernel_rfl) (by intro c a w h; exact h) (by rfl) (by intro w' hSw; go_simp; try with_reducible rfl) hHeld ?_
  try simp only [Act.put, List.setIfInBounds_toArray, List.set_cons_zero, List.set_cons_succ]
  refine held_take (i := 4) (by rfl) (by kernel_rfl) (by kernel_rfl) (by kernel_rfl) (by intro c a w h; exact h) (by rfl) (by intro w' hSw; go_simp; try with_reducible rfl) hHeld ?_
  try simp only [Act.put, List.setIfInBounds_toArray, List.set_cons_zero, List.set_cons_succ]
  refine held_take (i := 5) (by rfl) (by kernel_rfl) (by kernel_rfl) (by kernel_rfl) (by intro c a w h; exact h) (by rfl) (by intro w' hSw; have s2 := (hSw.cell (p := ⟨g, 2, none⟩) hg).trans K2.out; go_simp; try with_reducible rfl) hHeld ?_
  try simp only [Act.put, List.setIfInBounds_toArray, List.set_cons_zero, List.set_cons_succ]
  refine held_take (i := 7) (by rfl) (by kernel_rfl) (by kernel_rfl) (by kernel_rfl) (by intro c a w h; exact h) (by rfl) (by intro w' hSw; go_simp; try with_reducible rfl) hHeld ?_
  try simp only [Act.put, List.setIfInBounds_toArray, List.set_cons_zero, List.set_cons_succ]
  refine held_take (i := 8) (by rfl) (by kernel_rfl) (by kernel_rfl) (by kernel_rfl) (by intro c a w h; exact h) (by rfl) (by intro w' hSw; go_simp; try with_reducible rfl) hHeld ?_
  try simp only [Act.put, List.setIfInBounds_toArray, List.set_cons_zero, List.set_cons_succ]
  refine held_take (i := 9) (by rfl) (by kernel_rfl) (by kernel_rfl) (by kernel_rfl) (by intro c a w h; exact h) (by rfl) (by intro w' hSw; have s3 := (hSw.cell (p := ⟨g, 3, none⟩) hg).trans K3.out; go_simp; try with_reducible rfl) hHeld ?_
  try simp only [Act.put, List.setIfInBounds_toArray, List.set_cons_zero, List.set_cons_succ]
  refine wpAnyH_ready (rs := [6]) (by kernel_rfl) (by simp) ?_
  refine held_one (by rfl) (fun K hK => ?_)
  go_simp
  refine (CT2.out _).mono ?_
  rintro e9 w5 ⟨hb9, A1, c1, rfl, hs1⟩
  have HS1 := Lib.hid (slv_up (B' := w.heap.size + 1) hs1 (heap_lt HR.out))
  refine hK.out _ _ (hHeld.trans (hb9.mono (Nat.le_trans HBZ.out hHeld.size))) (fun hHeld9 => ?_)
  clear hHeld hK K
  have hHeld := hHeld9
  clear hHeld9
  try simp only [Act.put, List.setIfInBounds_toArray, List.set_cons_zero, List.set_cons_succ]
  replace HR := Lib.hid ((hb9.block _ (heap_lt HR.out)).trans HR.out)
  replace HB := Lib.hid (HB.out.trans (hb9.mono HB.out.size))
  clear hb9 hs1 CT2
  refine wpAnyH_ready (rs := [10]) (by kernel_rfl) (by simp) ?_
  refine held_one (by rfl) (fun K hK => ?_)
  go_simp
  refine (CT3.out _).mono ?_
  rintro e9 w9 ⟨hb9, A2, c2, rfl, hs2⟩
  have HS2 := Lib.hid (slv_up (B' := w.heap.size + 1) hs2 (heap_lt HR.out))
  replace HS1 := Lib.hid (slv_off HS1.out hb9)
  refine hK.out _ _ (hHeld.trans (hb9.mono (Nat.le_trans HBZ.out hHeld.size))) (fun hHeld9 => ?_)
  clear hHeld hK K
  have hHeld := hHeld9
  clear hHeld9
  try simp only [Act.put, List.setIfInBounds_toArray, List.set_cons_zero, List.set_cons_succ]
  replace HR := Lib.hid ((hb9.block _ (heap_lt HR.out)).trans HR.out)
  replace HB := Lib.hid (HB.out.trans (hb9.mono HB.out.size))
  clear hb9 hs2 CT3
  refine held_take (i := 11) (by rfl) (by kernel_rfl) (by kernel_rfl) (by kernel_rfl) (by intro c a w h; exact h) (by rfl) (by intro w' hSw; go_simp; try with_reducible rfl) hHeld ?_
  try simp only [Act.put, List.setIfInBounds_toArray, List.set_cons_zero, List.set_cons_succ]
  obtain ⟨⟨r0, r1, r2, r3, r4, r5, r6, r7, r8⟩, g0, g1, g2, g3, g4, g5, g6, g7, g8⟩ := nine_cells HR.out
  refine wpAnyH_ready (rs := [12]) (by kernel_rfl) (by simp) ?_
  refine held_one (by rfl) (fun K hK => ?_)
  go_simp
  clear r0 r1 r2 r3 r4 r5 r6 r7 r8 g0 g1 g2 g3 g4 g5 g6 g7 g8
  have HN := Lib.hid (set_nine HR.out (.int .i64 3) (.string x1) (.string ⟨#[]⟩) (.slice none 0 0) (.int .i64 0) (.int .i64 0) (.slice A1 m1.length c1) (.slice A2 m2.length c2) (.string ⟨#[]⟩))
  have HBF := Lib.hid (HB.out.trans (grown_below HN.out.2 (Nat.le_refl _) HB.out.size))
  have HS1' := Lib.hid (slv_set HS1.out HN.out.2)
  have HS2' := Lib.hid (slv_set HS2.out HN.out.2)
  refine hK.out _ _ (hHeld.trans (grown_below HN.out.2 (Nat.le_refl _) HB.out.size)) (fun hHeld9 => ?_)
  clear hHeld hK K
  have hHeld := hHeld9
  clear hHeld9
  try simp only [Act.put, List.setIfInBounds_toArray, List.set_cons_zero, List.set_cons_succ]
  refine wpAnyH_done (by kernel_rfl) ?_ _
  go_wp2_with fail
  generalize ((((((((w9.setCell ⟨w.heap.size, 0, none⟩ (.int .i64 3)).setCell ⟨w.heap.size, 1, none⟩ (.string x1)).setCell ⟨w.heap.size, 2, none⟩ (.string ⟨#[]⟩)).setCell ⟨w.heap.size, 3, none⟩ (.slice none 0 0)).setCell ⟨w.heap.size, 4, none⟩ (.int .i64 0)).setCell ⟨w.heap.size, 5, none⟩ (.int .i64 0)).setCell ⟨w.heap.size, 6, none⟩ (.slice A1 m1.length c1)).setCell ⟨w.heap.size, 7, none⟩ (.slice A2 m2.length c2)).setCell ⟨w.heap.size, 8, none⟩ (.string ⟨#[]⟩) = wf at *
  have c := cell_blk HN.out.1
  have v0 := c 0; have v1 := c 1; have v2 := c 2; have v3 := c 3; have v4 := c 4; have v5 := c 5; have v6 := c 6; have v7 := c 7; have v8 := c 8
  simp at v0 v1 v2 v3 v4 v5 v6 v7 v8
  refine bodyPost_ret (v := .agg #[.int .i64 3, .string x1, .string ⟨#[]⟩, .slice none 0 0, .int .i64 0, .int .i64 0, .slice A1 m1.length c1, .slice A2 m2.length c2, .string ⟨#[]⟩]) (by simp [results, Tryz.results52, go_sem, v0, v1, v2, v3, v4, v5, v6, v7, v8]) rfl ?_
  refine ⟨HBF.out, _, ?_, rfl⟩
  rw [HGF.out]
  obtain rfl := HX1.out
  exact ⟨A1, c1, A2, c2, rfl, rfl, HS1'.out, HS2'.out⟩
set_option maxHeartbeats 8000000 in
set_option maxRecDepth 100000 in
theorem rg_start (w : World) (g cap : Nat) (a b c d e : List UInt8) (hs : StrAt w g 0 ([wStart, a, b, c, d, e])) (hg : g < w.heap.size) (hl : ∀ x ∈ ([wStart, a, b, c, d, e]), x.length ≤ 4000) :
    Calls Tryz.prog 52 #[.slice (some ⟨g, 0, none⟩) 6 cap] w (GsP w (guessF ([wStart, a, b, c, d, e]))) := by
  have HGF : Hid (guessF ([wStart, a, b, c, d, e]) = ⟨1, a, .mk b [], clkF c, clkF d, [], [], (unT e).getD []⟩) := by rw [Hid]; simp only [guessF, if_true]
  have HB0 := Lib.hid (one_box w (.cells zMsg 27))
  have K0 := Lib.hid ((HB0.out.1.cell (p := ⟨g, 0, none⟩) hg).trans (hs 0 _ rfl))
  have K1 := Lib.hid ((HB0.out.1.cell (p := ⟨g, 1, none⟩) hg).trans ((show w.cell? ⟨g, 1, none⟩ = w.cell? ⟨g, 0 + 1, none⟩ by rw [Nat.zero_add]).trans (hs 1 _ rfl)))
  have K2 := Lib.hid ((HB0.out.1.cell (p := ⟨g, 2, none⟩) hg).trans ((show w.cell? ⟨g, 2, none⟩ = w.cell? ⟨g, 0 + 2, none⟩ by rw [Nat.zero_add]).trans (hs 2 _ rfl)))
  have K3 := Lib.hid ((HB0.out.1.cell (p := ⟨g, 3, none⟩) hg).trans ((show w.cell? ⟨g, 3, none⟩ = w.cell? ⟨g, 0 + 3, none⟩ by rw [Nat.zero_add]).trans (hs 3 _ rfl)))
  have K4 := Lib.hid ((HB0.out.1.cell (p := ⟨g, 4, none⟩) hg).trans ((show w.cell? ⟨g, 4, none⟩ = w.cell? ⟨g, 0 + 4, none⟩ by rw [Nat.zero_add]).trans (hs 4 _ rfl)))
  have K5 := Lib.hid ((HB0.out.1.cell (p := ⟨g, 5, none⟩) hg).trans ((show w.cell? ⟨g, 5, none⟩ = w.cell? ⟨g, 0 + 5, none⟩ by rw [Nat.zero_add]).trans (hs 5 _ rfl)))
  have hx0 : (bs wStart).toList = wStart := by rw [ByteArray.toList_eq, toList_bs]
  have HX0 := Lib.hid hx0
  clear hx0
  have hl1 : (bs a).size ≤ 4000 := by rw [size_bs]; exact hl a (by simp)
  have hl2 : (bs b).size ≤ 4000 := by rw [size_bs]; exact hl b (by simp)
  have hl3 : (bs c).size ≤ 4000 := by rw [size_bs]; exact hl c (by simp)
  have hl4 : (bs d).size ≤ 4000 := by rw [size_bs]; exact hl d (by simp)
  have hl5 : (bs e).size ≤ 4000 := by rw [size_bs]; exact hl e (by simp)
  clear hs hl
  generalize bs wStart = x0 at *
  have e0 : (x0.toList == [115, 116, 97, 114, 116]) = true := by rw [HX0.out]; rfl
  go_enter Tryz.func52, Tryz.ntmps52
  go_upto_region 1 with fail
  have hw0 : w.alloc (.cells zMsg 27) = w.alloc (.cells zMsg 27) := rfl
  clear hw0
  generalize w.alloc (.cells #[.int .i64 0, .string ⟨#[]⟩, .string ⟨#[]⟩, .slice none 0 0, .int .i64 0, .int .i64 0, .slice none 0 0, .slice none 0 0, .string ⟨#[]⟩] 27) = w0 at *
  have HB := Lib.hid HB0.out.1
  have HR := Lib.hid HB0.out.2
  have k0 := K0.out
  have CU := Lib.hid (fun y : World => runescape_any y (bs e) (by omega))
  rw [toList_bs] at CU
  unfold unV at CU
  have HST : Hid (bs (unO e).1 = bs ((unT e).getD [])) := by
    unfold unO
    rw [Hid]
    cases unT e <;> rfl
  rw [HST.out] at CU
  clear HST
  have CC3 := Lib.hid (fun y : World => rclock_any y (bs c) (by omega))
  have CC4 := Lib.hid (fun y : World => rclock_any y (bs d) (by omega))
  rw [toList_bs] at CC3 CC4
  generalize clkF c = z3 at *
  generalize clkF d = z4 at *
  generalize hst : bs ((unT e).getD []) = st at *
  have HST := Lib.hid hst
  clear hst
  generalize (unO e).2 = ez at *
  generalize hx1 : bs a = x1 at *
  have HX1 := Lib.hid hx1
  clear hx1
  generalize hx2 : bs b = x2 at *
  have HX2 := Lib.hid hx2
  clear hx2
  generalize bs c = x3 at *
  generalize bs d = x4 at *
  generalize bs e = x5 at *
  have HBZ := Lib.hid HB.out.size
  have k5 := K5.out
  go_wp2_with fail
  refine (CU.out w0).mono ?_
  rintro e9 w1 ⟨rfl, hb⟩
  replace HR := Lib.hid ((hb.block _ (heap_lt HR.out)).trans HR.out)
  replace HB := Lib.hid (HB.out.trans (hb.mono HB.out.size))
  have hHeld0 := Lib.hid (hb.mono HBZ.out)
  clear hb CU k0 k5
  go_wp2_with fail
  refine wp_region_held_drew (S := fun y => Below w.heap.size w0 y) (by kernel_rfl) (Below.drew hHeld0.out) (fun hHeld => ?_)
  have HRd : Hid (w1.drew.heap[w.heap.size]? = some (.cells zMsg 27 (0, 0))) := HR.out
  have HBd : Hid (Below w.heap.size w w1.drew) := HB.out.drew
  clear HR HB
  have HR := HRd
  have HB := HBd
  clear HRd HBd
  generalize w1.drew = wd at *
  refine held_take (i := 0) (by rfl) (by kernel_rfl) (by kernel_rfl) (by kernel_rfl) (by intro c a w h; exact h) (by rfl) (by intro w' hSw; go_simp; try with_reducible rfl) hHeld ?_
  try simp only [Act.put, List.setIfInBounds_toArray, List.set_cons_zero, List.set_cons_succ]
  refine held_take (i := 1) (by rfl) (by kernel_rfl) (by kernel_rfl) (by kernel_rfl) (by intro c a w h; exact h) (by rfl) (by intro w' hSw; go_simp; try with_reducible rfl) hHeld ?_
  try simp only [Act.put, List.setIfInBounds_toArray, List.set_cons_zero, List.set_cons_succ]
  refine held_take (i := 2) (by rfl) (by kernel_rfl) (by kernel_rfl) (by kernel_rfl) (by intro c a w h; exact h) (by rfl) (by intro w' hSw; have s1 := (hSw.cell (p := ⟨g, 1, none⟩) hg).trans K1.out; go_simp; try with_reducible rfl) hHeld ?_
  try simp only [Act.put, List.setIfInBounds_toArray, List.set_cons_zero, List.set_cons_succ]
  refine held_take (i := 3) (by rfl) (by kernel_rfl) (by kernel_rfl) (by kernel_rfl) (by intro c a w h; exact h) (by rfl) (by intro w' hSw; go_simp; try with_reducible rfl) hHeld ?_
  try simp only [Act.put, List.setIfInBounds_toArray, List.set_cons_zero, List.set_cons_succ]
  refine held_take (i := 4) (by rfl) (by kernel_rfl) (by kernel_rfl) (by kernel_rfl) (by intro c a w h; exact h) (by rfl) (by intro w' hSw; go_simp; try with_reducible rfl) hHeld ?_
  try simp only [Act.put, List.setIfInBounds_toArray, List.set_cons_zero, List.set_cons_succ]
  refine held_take (i := 5) (by rfl) (by kernel_rfl) (by kernel_rfl) (by kernel_rfl) (by intro c a w h; exact h) (by rfl) (by intro w' hSw; have s2 := (hSw.cell (p := ⟨g, 2, none⟩) hg).trans K2.out; go_simp; try with_reducible rfl) hHeld ?_
  try simp only [Act.put, List.setIfInBounds_toArray, List.set_cons_zero, List.set_cons_succ]
  refine held_take (i := 6) (by rfl) (by kernel_rfl) (by kernel_rfl) (by kernel_rfl) (by intro c a w h; exact h) (by rfl) (by intro w' hSw; go_simp; try with_reducible rfl) hHeld ?_
  try simp only [Act.put, List.setIfInBounds_toArray, List.set_cons_zero, List.set_cons_succ]
  refine held_take (i := 7) (by rfl) (by kernel_rfl) (by kernel_rfl) (by kernel_rfl) (by intro c a w h; exact h) (by rfl) (by intro w' hSw; go_simp; try with_reducible rfl) hHeld ?_
  try simp only [Act.put, List.setIfInBounds_toArray, List.set_cons_zero, List.set_cons_succ]
  refine held_take (i := 8) (by rfl) (by kernel_rfl) (by kernel_rfl) (by kernel_rfl) (by intro c a w h; exact h) (by rfl) (by intro w' hSw; go_simp; try with_reducible rfl) hHeld ?_
  try simp only [Act.put, List.setIfInBounds_toArray, List.set_cons_zero, List.set_cons_succ]
  refine held_take (i := 9) (by rfl) (by kernel_rfl) (by kernel_rfl) (by kernel_rfl) (by intro c a w h; exact h) (by rfl) (by intro w' hSw; have s3 := (hSw.cell (p := ⟨g, 3, none⟩) hg).trans K3.out; go_simp; try with_reducible rfl) hHeld ?_
  try simp only [Act.put, List.setIfInBounds_toArray, List.set_cons_zero, List.set_cons_succ]
  refine held_take (i := 11) (by rfl) (by kernel_rfl) (by kernel_rfl) (by kernel_rfl) (by intro c a w h; exact h) (by rfl) (by intro w' hSw; go_simp; try with_reducible rfl) hHeld ?_
  try simp only [Act.put, List.setIfInBounds_toArray, List.set_cons_zero, List.set_cons_succ]
  refine held_take (i := 12) (by rfl) (by kernel_rfl) (by kernel_rfl) (by kernel_rfl) (by intro c a w h; exact h) (by rfl) (by intro w' hSw; go_simp; try with_reducible rfl) hHeld ?_
  try simp only [Act.put, List.setIfInBounds_toArray, List.set_cons_zero, List.set_cons_succ]
  refine held_take (i := 13) (by rfl) (by kernel_rfl) (by kernel_rfl) (by kernel_rfl) (by intro c a w h; exact h) (by rfl) (by intro w' hSw; have s4 := (hSw.cell (p := ⟨g, 4, none⟩) hg).trans K4.out; go_simp; try with_reducible rfl) hHeld ?_
  try simp only [Act.put, List.setIfInBounds_toArray, List.set_cons_zero, List.set_cons_succ]
  refine held_take (i := 15) (by rfl) (by kernel_rfl) (by kernel_rfl) (by kernel_rfl) (by intro c a w h; exact h) (by rfl) (by intro w' hSw; go_simp; try with_reducible rfl) hHeld ?_
  try simp only [Act.put, List.setIfInBounds_toArray, List.set_cons_zero, List.set_cons_succ]
  refine wpAnyH_ready (rs := [10]) (by kernel_rfl) (by simp) ?_
  refine held_one (by rfl) (fun K hK => ?_)
  go_simp
  refine (CC3.out _).mono ?_
  rintro e9 w5 ⟨rfl, hb9⟩
  refine hK.out _ _ (hHeld.trans (hb9.mono (Nat.le_trans HBZ.out hHeld.size))) (fun hHeld9 => ?_)
  clear hHeld hK K
  have hHeld := hHeld9
  clear hHeld9
  try simp only [Act.put, List.setIfInBounds_toArray, List.set_cons_zero, List.set_cons_succ]
  replace HR := Lib.hid ((hb9.block _ (heap_lt HR.out)).trans HR.out)
  replace HB := Lib.hid (HB.out.trans (hb9.mono HB.out.size))
  clear hb9 CC3
  refine wpAnyH_ready (rs := [14]) (by kernel_rfl) (by simp) ?_
  refine held_one (by rfl) (fun K hK => ?_)
  go_simp
  refine (CC4.out _).mono ?_
  rintro e9 w9 ⟨rfl, hb9⟩
  refine hK.out _ _ (hHeld.trans (hb9.mono (Nat.le_trans HBZ.out hHeld.size))) (fun hHeld9 => ?_)
  clear hHeld hK K
  have hHeld := hHeld9
  clear hHeld9
  try simp only [Act.put, List.setIfInBounds_toArray, List.set_cons_zero, List.set_cons_succ]
  replace HR := Lib.hid ((hb9.block _ (heap_lt HR.out)).trans HR.out)
  replace HB := Lib.hid (HB.out.trans (hb9.mono HB.out.size))
  clear hb9 CC4
  refine held_take (i := 16) (by rfl) (by kernel_rfl) (by kernel_rfl) (by kernel_rfl) (by intro c a w h; exact h) (by rfl) (by intro w' hSw; go_simp; try with_reducible rfl) hHeld ?_
  try simp only [Act.put, List.setIfInBounds_toArray, List.set_cons_zero, List.set_cons_succ]
  obtain ⟨⟨r0, r1, r2, r3, r4, r5, r6, r7, r8⟩, g0, g1, g2, g3, g4, g5, g6, g7, g8⟩ := nine_cells HR.out
  refine wpAnyH_ready (rs := [17]) (by kernel_rfl) (by simp) ?_
  refine held_one (by rfl) (fun K hK => ?_)
  go_simp
  clear r0 r1 r2 r3 r4 r5 r6 r7 r8 g0 g1 g2 g3 g4 g5 g6 g7 g8
  have HN := Lib.hid (set_nine HR.out (.int .i64 1) (.string x1) (.string x2) (.slice none 0 0) (.int .i64 z3) (.int .i64 z4) (.slice none 0 0) (.slice none 0 0) (.string st))
  have HBF := Lib.hid (HB.out.trans (grown_below HN.out.2 (Nat.le_refl _) HB.out.size))
  refine hK.out _ _ (hHeld.trans (grown_below HN.out.2 (Nat.le_refl _) HB.out.size)) (fun hHeld9 => ?_)
  clear hHeld hK K
  have hHeld := hHeld9
  clear hHeld9
  try simp only [Act.put, List.setIfInBounds_toArray, List.set_cons_zero, List.set_cons_succ]
  refine wpAnyH_done (by kernel_rfl) ?_ _
  go_wp2_with fail
  generalize ((((((((w9.setCell ⟨w.heap.size, 0, none⟩ (.int .i64 1)).setCell ⟨w.heap.size, 1, none⟩ (.string x1)).setCell ⟨w.heap.size, 2, none⟩ (.string x2)).setCell ⟨w.heap.size, 3, none⟩ (.slice none 0 0)).setCell ⟨w.heap.size, 4, none⟩ (.int .i64 z3)).setCell ⟨w.heap.size, 5, none⟩ (.int .i64 z4)).setCell ⟨w.heap.size, 6, none⟩ (.slice none 0 0)).setCell ⟨w.heap.size, 7, none⟩ (.slice none 0 0)).setCell ⟨w.heap.size, 8, none⟩ (.string st) = wf at *
  have c := cell_blk HN.out.1
  have v0 := c 0; have v1 := c 1; have v2 := c 2; have v3 := c 3; have v4 := c 4; have v5 := c 5; have v6 := c 6; have v7 := c 7; have v8 := c 8
  simp at v0 v1 v2 v3 v4 v5 v6 v7 v8
  refine bodyPost_ret (v := .agg #[.int .i64 1, .string x1, .string x2, .slice none 0 0, .int .i64 z3, .int .i64 z4, .slice none 0 0, .slice none 0 0, .string st]) (by simp [results, Tryz.results52, go_sem, v0, v1, v2, v3, v4, v5, v6, v7, v8]) rfl ?_
  refine ⟨HBF.out, _, ?_, rfl⟩
  rw [HGF.out]
  obtain rfl := HX1.out
  obtain rfl := HX2.out
  obtain rfl := HST.out
  exact ⟨none, 0, none, 0, rfl, rfl, slv_none _ _, slv_none _ _⟩
theorem rguess_any (w : World) (g cap : Nat) (ws : List (List UInt8)) (hne : ws ≠ []) (hs : StrAt w g 0 ws) (hg : g < w.heap.size) (hl : ∀ x ∈ ws, x.length ≤ 4000) (hn : ws.length ≤ 10000000) :
    Calls Tryz.prog 52 #[.slice (some ⟨g, 0, none⟩) ws.length cap] w (GsP w (guessF ws)) := by
  cases ws with
  | nil => exact absurd rfl hne
  | cons k l =>
    rw [List.length_cons] at hn ⊢
    by_cases h0 : k = wStart
    · subst h0
      by_cases h5 : l.length = 5
      · match l, h5 with
        | [a, b, c, d, e], _ => exact rg_start w g cap a b c d e hs hg hl
      · exact rg_start0 w g cap l hs hg hl (by omega) h5
    by_cases h1 : k = wPlay
    · subst h1
      by_cases h5 : l.length = 3
      · match l, h5 with
        | [a, b, c], _ => exact rg_play w g cap a b c hs hg hl
      · exact rg_play0 w g cap l hs hg hl (by omega) h5
    by_cases h2 : k = wStop
    · subst h2
      by_cases h5 : l.length = 3
      · match l, h5 with
        | [a, b, c], _ => exact rg_stop w g cap a b c hs hg hl
      · exact rg_stop0 w g cap l hs hg hl (by omega) h5
    by_cases h3 : k = wAbort
    · subst h3
      by_cases h5 : l.length = 1
      · match l, h5 with
        | [a], _ => exact rg_abort w g cap a hs hg hl
      · exact rg_abort0 w g cap l hs hg hl (by omega) h5
    by_cases h4 : k = wReady
    · subst h4
      exact rg_ready w g cap l hs hg hl (by omega)
    by_cases h5 : k = wMove
    · subst h5
      by_cases h5 : l.length = 1
      · match l, h5 with
        | [a], _ => exact rg_move w g cap a hs hg hl
      · exact rg_move0 w g cap l hs hg hl (by omega) h5
    by_cases h6 : k = wDone
    · subst h6
      exact rg_done w g cap l hs hg hl (by omega)
    exact rg_other w g cap k l hs hg hl (by omega) h0 h1 h2 h3 h4 h5 h6

end
/- The reference's Decode. -/
section
open Go Go.RowKit Go.Shelf
set_option linter.unusedSimpArgs false
set_option linter.unusedVariables false

/-- what is known of a message that was guessed -/
structure FineG (m : Ms) : Prop where
  args : m.role.args = []
  n1 : m.moves.length ≤ 5000
  n2 : m.percepts.length ≤ 5000
  b1 : ∀ t ∈ m.moves, TmB t
  b2 : ∀ t ∈ m.percepts, TmB t
  mat : m.mat.length ≤ 5000000
  role : m.role.name.length ≤ 5000000
  text : m.text.length ≤ 5000000
theorem termsR_fine {x : List UInt8} (h : x.length ≤ 4000) : (termsR x).length ≤ 5000 ∧ ∀ t ∈ termsR x, TmB t := by
  unfold termsR
  cases ht : termsP x with
  | none =>
    refine ⟨by simp, ?_⟩
    intro t hm
    simp only [Option.getD_none, List.mem_singleton] at hm
    subst hm
    exact .mk [] [] (by simp) (by simp) (fun t ht => by cases ht)
  | some l =>
    obtain ⟨a, b⟩ := tmO_fine (l := [x]) (ts := l) ht (fun y hy => by simp only [List.mem_singleton] at hy; subst hy; exact h)
    exact ⟨a, fun t hm => tmb_of4 (b t hm)⟩
theorem unG_le {x : List UInt8} (h : x.length ≤ 4000) : ((unT x).getD []).length ≤ 5000000 := by
  cases hu : unT x with
  | none => simp
  | some t => have := un_le hu; simp; omega
theorem ms0_fine : FineG ms0 := ⟨rfl, by decide, by decide, (fun t h => by cases h), (fun t h => by cases h), by decide, by decide, by decide⟩
theorem guess_fine : ∀ (ws : List (List UInt8)), (∀ x ∈ ws, x.length ≤ 4000) → FineG (guessF ws)
  | [], _ => ms0_fine
  | k :: l, hl => by
    have h0 : ∀ t ∈ ([] : List Tm), TmB t := fun t h => by cases h
    have e0 : ([] : List Tm).length ≤ 5000 := by decide
    have z0 : ([] : List UInt8).length ≤ 5000000 := by decide
    unfold guessF
    dsimp only
    split
    · split
      · rename_i a b c d e
        exact ⟨rfl, e0, e0, h0, h0, by have := hl a (by simp); show a.length ≤ _; omega, by have := hl b (by simp); show b.length ≤ _; omega, unG_le (hl e (by simp))⟩
      · exact ms0_fine
    split
    · split
      · rename_i a b c
        exact ⟨rfl, (termsR_fine (hl b (by simp))).1, (termsR_fine (hl c (by simp))).1, (termsR_fine (hl b (by simp))).2, (termsR_fine (hl c (by simp))).2, by have := hl a (by simp); show a.length ≤ _; omega, z0, z0⟩
      · exact ms0_fine
    split
    · split
      · rename_i a b c
        exact ⟨rfl, (termsR_fine (hl b (by simp))).1, (termsR_fine (hl c (by simp))).1, (termsR_fine (hl b (by simp))).2, (termsR_fine (hl c (by simp))).2, by have := hl a (by simp); show a.length ≤ _; omega, z0, z0⟩
      · exact ms0_fine
    split
    · split
      · rename_i a
        exact ⟨rfl, e0, e0, h0, h0, by have := hl a (by simp); show a.length ≤ _; omega, z0, z0⟩
      · exact ms0_fine
    split
    · exact ⟨rfl, e0, e0, h0, h0, z0, z0, z0⟩
    split
    · split
      · rename_i a
        exact ⟨rfl, (termsR_fine (hl a (by simp))).1, e0, (termsR_fine (hl a (by simp))).2, h0, z0, z0, z0⟩
      · exact ms0_fine
    split
    · exact ⟨rfl, e0, e0, h0, h0, z0, z0, z0⟩
    · exact ms0_fine
/-- what the reference's Decode returns -/
def DgP (w : World) (r : Option Ms) (e : Ending) (w' : World) : Prop :=
  Below w.heap.size w w' ∧ match r with
  | none => e = .returned (.tuple #[.agg zMsg, .int .i64 1])
  | some m => ∃ C, MsG w' w.heap.size C m ∧ e = .returned (.tuple #[.agg C, .int .i64 0])
set_option maxHeartbeats 16000000 in
set_option maxRecDepth 100000 in
theorem rdecode_any (w : World) (s : List UInt8) (hs : s.length ≤ 4000) (ht : Tb w) : Calls Tryz.prog 21 #[.string (bs s)] w (DgP w (decR s)) := by
  have HB0 := Lib.hid (one_box w (.cells zMsg 27))
  have CW := Lib.hid (rwords_any (w.alloc (.cells zMsg 27)) (bs s) (by rw [size_bs]; omega))
  rw [toList_bs] at CW
  have HL : Hid (wordsF s ≠ [] ∧ (wordsF s).length ≤ 10000000 ∧ ∀ x ∈ wordsF s, x.length ≤ 4000) := ⟨wordsF_ne s, by have := (words_le s).1; omega, fun x hx => Nat.le_trans ((words_le s).2 x hx) hs⟩
  have HDP : Hid (decR s = closeF s (guessF (wordsF s))) := rfl
  have HF := Lib.hid (guess_fine (wordsF s) HL.out.2.2)
  have HTB := Lib.hid (fun (y : World) (hy : Below w.heap.size w y) => ht.below hy)
  clear ht hs
  go_enter Tryz.func21, Tryz.ntmps21
  go_wp2_with fail
  generalize w.alloc (.cells #[.int .i64 0, .string ⟨#[]⟩, .string ⟨#[]⟩, .slice none 0 0, .int .i64 0, .int .i64 0, .slice none 0 0, .slice none 0 0, .string ⟨#[]⟩] 27) = w0 at *
  have HB := Lib.hid HB0.out.1
  have HR := Lib.hid HB0.out.2
  clear HB0
  refine CW.out.mono ?_
  rintro e w1 ⟨hb, g, cap, rfl, hg, hg2, hst⟩
  replace HR := Lib.hid ((hb.block _ (heap_lt HR.out)).trans HR.out)
  replace HB := Lib.hid (HB.out.trans (hb.mono HB.out.size))
  have CG := Lib.hid (rguess_any w1 g cap (wordsF s) HL.out.1 hst hg2 HL.out.2.2 HL.out.2.1)
  clear hb hg hg2 hst CW HL
  generalize (wordsF s).length = nw at *
  generalize guessF (wordsF s) = m at *
  go_wp2_with fail
  refine CG.out.mono ?_
  rintro e w2 ⟨hb, C, hC, rfl⟩
  obtain ⟨A1, c1, A2, c2, rfl, hargs, hs1, hs2⟩ := hC
  obtain ⟨k0, mat, ⟨nm, ra⟩, sc, pc, mv, pv, tx⟩ := m
  have hra : ra = [] := hargs
  subst hra
  have hsz1 : w.heap.size + 1 ≤ w1.heap.size := heap_lt HR.out
  replace HR := Lib.hid ((hb.block _ (heap_lt HR.out)).trans HR.out)
  replace HB := Lib.hid (HB.out.trans (hb.mono HB.out.size))
  have HS1 := Lib.hid (slv_up (B' := w.heap.size + 1) hs1 hsz1)
  have HS2 := Lib.hid (slv_up (B' := w.heap.size + 1) hs2 hsz1)
  clear hb hs1 hs2 CG hsz1 hargs
  simp only [Tm.name] at HS1 HS2 ⊢
  have HNB := Lib.hid (one_box w2 (.cells #[.int .i64 k0, .string (bs mat), .string (bs nm), .slice none 0 0, .int .i64 sc, .int .i64 pc, .slice A1 mv.length c1, .slice A2 pv.length c2, .string (bs tx)] 27))
  replace HR := Lib.hid ((HNB.out.1.block _ (heap_lt HR.out)).trans HR.out)
  replace HB := Lib.hid (HB.out.trans (HNB.out.1.mono HB.out.size))
  replace HS1 := Lib.hid (slv_off HS1.out HNB.out.1)
  replace HS2 := Lib.hid (slv_off HS2.out HNB.out.1)
  have HM := Lib.hid HNB.out.2
  have CE := Lib.hid (rencode_any (w2.alloc (.cells #[.int .i64 k0, .string (bs mat), .string (bs nm), .slice none 0 0, .int .i64 sc, .int .i64 pc, .slice A1 mv.length c1, .slice A2 pv.length c2, .string (bs tx)] 27)) _ k0 mat nm none 0 [] sc pc A1 c1 mv A2 c2 pv tx
    (by have : mat.length ≤ 5000000 := HF.out.mat; omega) (by have : nm.length ≤ 5000000 := HF.out.role; omega)
    (⟨by have : mv.length ≤ 5000 := HF.out.n1; omega, by have : pv.length ≤ 5000 := HF.out.n2; omega, fun j hj => hj.2, HS1.out.keep keeps_tm (P' := fun j => w.heap.size + 1 ≤ j ∧ j < (w2.alloc (.cells #[.int .i64 k0, .string (bs mat), .string (bs nm), .slice none 0 0, .int .i64 sc, .int .i64 pc, .slice A1 mv.length c1, .slice A2 pv.length c2, .string (bs tx)] 27)).heap.size) (fun j hj hl => ⟨⟨hj, hl⟩, rfl⟩) (Nat.le_refl _), HF.out.b1, HS2.out.keep keeps_tm (fun j hj hl => ⟨⟨hj, hl⟩, rfl⟩) (Nat.le_refl _), HF.out.b2⟩)
    HF.out.n1 HF.out.n2 (HTB.out _ HB.out) (by have : tx.length ≤ 5000000 := HF.out.text; omega))
  rw [show ([] : List Tm).length = 0 from rfl] at CE
  clear HF HTB HNB
  by_cases hc : checkF ⟨k0, mat, .mk nm [], sc, pc, mv, pv, tx⟩ = 0
  rotate_left
  focus
    have HDE : Hid (decR s = none) := by rw [Hid, HDP.out]; unfold closeF; rw [if_neg (fun h => hc h.1)]
    unfold encV encO at CE
    rw [if_neg hc] at CE
    generalize checkF ⟨k0, mat, .mk nm [], sc, pc, mv, pv, tx⟩ = z at *
    simp only at CE
    have e1 : (z != 0) = true := by simpa using hc
    generalize bs s = st at *
    generalize bs mat = smat at *
    generalize bs nm = snm at *
    generalize bs tx = stx at *
    clear hc
    have m := cell_blk HM.out
    have m0 := m 0; have m1 := m 1; have m2 := m 2; have m3 := m 3; have m4 := m 4; have m5 := m 5; have m6 := m 6; have m7 := m 7; have m8 := m 8
    clear m
    go_wp2_with fail
    clear m0 m1 m2 m3 m4 m5 m6 m7 m8
    refine CE.out.mono ?_
    rintro e w4 ⟨rfl, hb⟩
    replace HR := Lib.hid ((hb.block _ (heap_lt HR.out)).trans HR.out)
    replace HB := Lib.hid (HB.out.trans (hb.mono HB.out.size))
    replace HM := Lib.hid ((hb.block _ (heap_lt HM.out)).trans HM.out)
    replace HS1 := Lib.hid (slv_off HS1.out hb)
    replace HS2 := Lib.hid (slv_off HS2.out hb)
    clear hb
    obtain ⟨⟨r0, r1, r2, r3, r4, r5, r6, r7, r8⟩, g0, g1, g2, g3, g4, g5, g6, g7, g8⟩ := nine_cells HR.out
    go_wp2_with fail
    clear r0 r1 r2 r3 r4 r5 r6 r7 r8 g0 g1 g2 g3 g4 g5 g6 g7 g8
    have HN := Lib.hid (set_nine HR.out (.int .i64 0) (.string ⟨#[]⟩) (.string ⟨#[]⟩) (.slice none 0 0) (.int .i64 0) (.int .i64 0) (.slice none 0 0) (.slice none 0 0) (.string ⟨#[]⟩))
    have HBF := Lib.hid (HB.out.trans (grown_below HN.out.2 (Nat.le_refl _) HB.out.size))
    generalize ((((((((w4.setCell ⟨w.heap.size, 0, none⟩ (.int .i64 0)).setCell ⟨w.heap.size, 1, none⟩ (.string ⟨#[]⟩)).setCell ⟨w.heap.size, 2, none⟩ (.string ⟨#[]⟩)).setCell ⟨w.heap.size, 3, none⟩ (.slice none 0 0)).setCell ⟨w.heap.size, 4, none⟩ (.int .i64 0)).setCell ⟨w.heap.size, 5, none⟩ (.int .i64 0)).setCell ⟨w.heap.size, 6, none⟩ (.slice none 0 0)).setCell ⟨w.heap.size, 7, none⟩ (.slice none 0 0)).setCell ⟨w.heap.size, 8, none⟩ (.string ⟨#[]⟩) = wf at *
    have c := cell_blk HN.out.1
    have v0 := c 0; have v1 := c 1; have v2 := c 2; have v3 := c 3; have v4 := c 4; have v5 := c 5; have v6 := c 6; have v7 := c 7; have v8 := c 8
    simp at v0 v1 v2 v3 v4 v5 v6 v7 v8
    refine bodyPost_ret (v := .tuple #[.agg #[.int .i64 0, .string ⟨#[]⟩, .string ⟨#[]⟩, .slice none 0 0, .int .i64 0, .int .i64 0, .slice none 0 0, .slice none 0 0, .string ⟨#[]⟩], .int .i64 1]) (by simp [results, Tryz.results21, go_sem, v0, v1, v2, v3, v4, v5, v6, v7, v8]) rfl ?_
    refine ⟨HBF.out, ?_⟩
    rw [HDE.out]
  unfold encV encO at CE
  rw [if_pos hc] at CE
  simp only at CE
  by_cases he : encF ⟨k0, mat, .mk nm [], sc, pc, mv, pv, tx⟩ = s
  rotate_left
  focus
    have HDE : Hid (decR s = none) := by rw [Hid, HDP.out]; unfold closeF; rw [if_neg (fun h => he h.2)]
    generalize hes : bs (encF ⟨k0, mat, .mk nm [], sc, pc, mv, pv, tx⟩) = es at *
    generalize hst : bs s = st at *
    have e1 : (es.toList == st.toList) = false := by rw [← hes, ← hst, ByteArray.toList_eq, ByteArray.toList_eq, toList_bs, toList_bs]; exact beq_eq_false_iff_ne.2 he
    have e2 : (es.toList != st.toList) = true := by rw [bne, e1]; rfl
    generalize bs mat = smat at *
    generalize bs nm = snm at *
    generalize bs tx = stx at *
    clear hes hst hc he
    have m := cell_blk HM.out
    have m0 := m 0; have m1 := m 1; have m2 := m 2; have m3 := m 3; have m4 := m 4; have m5 := m 5; have m6 := m 6; have m7 := m 7; have m8 := m 8
    clear m
    go_wp2_with fail
    clear m0 m1 m2 m3 m4 m5 m6 m7 m8
    refine CE.out.mono ?_
    rintro e w4 ⟨rfl, hb⟩
    replace HR := Lib.hid ((hb.block _ (heap_lt HR.out)).trans HR.out)
    replace HB := Lib.hid (HB.out.trans (hb.mono HB.out.size))
    replace HM := Lib.hid ((hb.block _ (heap_lt HM.out)).trans HM.out)
    replace HS1 := Lib.hid (slv_off HS1.out hb)
    replace HS2 := Lib.hid (slv_off HS2.out hb)
    clear hb
    obtain ⟨⟨r0, r1, r2, r3, r4, r5, r6, r7, r8⟩, g0, g1, g2, g3, g4, g5, g6, g7, g8⟩ := nine_cells HR.out
    go_wp2_with fail
    clear r0 r1 r2 r3 r4 r5 r6 r7 r8 g0 g1 g2 g3 g4 g5 g6 g7 g8
    have HN := Lib.hid (set_nine HR.out (.int .i64 0) (.string ⟨#[]⟩) (.string ⟨#[]⟩) (.slice none 0 0) (.int .i64 0) (.int .i64 0) (.slice none 0 0) (.slice none 0 0) (.string ⟨#[]⟩))
    have HBF := Lib.hid (HB.out.trans (grown_below HN.out.2 (Nat.le_refl _) HB.out.size))
    generalize ((((((((w4.setCell ⟨w.heap.size, 0, none⟩ (.int .i64 0)).setCell ⟨w.heap.size, 1, none⟩ (.string ⟨#[]⟩)).setCell ⟨w.heap.size, 2, none⟩ (.string ⟨#[]⟩)).setCell ⟨w.heap.size, 3, none⟩ (.slice none 0 0)).setCell ⟨w.heap.size, 4, none⟩ (.int .i64 0)).setCell ⟨w.heap.size, 5, none⟩ (.int .i64 0)).setCell ⟨w.heap.size, 6, none⟩ (.slice none 0 0)).setCell ⟨w.heap.size, 7, none⟩ (.slice none 0 0)).setCell ⟨w.heap.size, 8, none⟩ (.string ⟨#[]⟩) = wf at *
    have c := cell_blk HN.out.1
    have v0 := c 0; have v1 := c 1; have v2 := c 2; have v3 := c 3; have v4 := c 4; have v5 := c 5; have v6 := c 6; have v7 := c 7; have v8 := c 8
    simp at v0 v1 v2 v3 v4 v5 v6 v7 v8
    refine bodyPost_ret (v := .tuple #[.agg #[.int .i64 0, .string ⟨#[]⟩, .string ⟨#[]⟩, .slice none 0 0, .int .i64 0, .int .i64 0, .slice none 0 0, .slice none 0 0, .string ⟨#[]⟩], .int .i64 1]) (by simp [results, Tryz.results21, go_sem, v0, v1, v2, v3, v4, v5, v6, v7, v8]) rfl ?_
    refine ⟨HBF.out, ?_⟩
    rw [HDE.out]
  have HDE : Hid (decR s = some ⟨k0, mat, .mk nm [], sc, pc, mv, pv, tx⟩) := by rw [Hid, HDP.out]; unfold closeF; rw [if_pos ⟨hc, he⟩]
  rw [he] at CE
  generalize bs s = st at *
  have e1 : (st.toList == st.toList) = true := by simp
  generalize hmat : bs mat = smat at *
  generalize hnm : bs nm = snm at *
  generalize htx : bs tx = stx at *
  have HE3 := Lib.hid (And.intro hmat (And.intro hnm htx))
  clear hmat hnm htx hc he
  have m := cell_blk HM.out
  have m0 := m 0; have m1 := m 1; have m2 := m 2; have m3 := m 3; have m4 := m 4; have m5 := m 5; have m6 := m 6; have m7 := m 7; have m8 := m 8
  clear m
  go_wp2_with fail
  clear m0 m1 m2 m3 m4 m5 m6 m7 m8
  refine CE.out.mono ?_
  rintro e w4 ⟨rfl, hb⟩
  replace HR := Lib.hid ((hb.block _ (heap_lt HR.out)).trans HR.out)
  replace HB := Lib.hid (HB.out.trans (hb.mono HB.out.size))
  replace HM := Lib.hid ((hb.block _ (heap_lt HM.out)).trans HM.out)
  replace HS1 := Lib.hid (slv_off HS1.out hb)
  replace HS2 := Lib.hid (slv_off HS2.out hb)
  clear hb
  obtain ⟨⟨r0, r1, r2, r3, r4, r5, r6, r7, r8⟩, g0, g1, g2, g3, g4, g5, g6, g7, g8⟩ := nine_cells HR.out
  have m := cell_blk HM.out
  have m0 := m 0; have m1 := m 1; have m2 := m 2; have m3 := m 3; have m4 := m 4; have m5 := m 5; have m6 := m 6; have m7 := m 7; have m8 := m 8
  clear m
  simp at m0 m1 m2 m3 m4 m5 m6 m7 m8
  go_wp2_with fail
  clear m0 m1 m2 m3 m4 m5 m6 m7 m8
  clear r0 r1 r2 r3 r4 r5 r6 r7 r8 g0 g1 g2 g3 g4 g5 g6 g7 g8
  have HN := Lib.hid (set_nine HR.out (.int .i64 k0) (.string smat) (.string snm) (.slice none 0 0) (.int .i64 sc) (.int .i64 pc) (.slice A1 mv.length c1) (.slice A2 pv.length c2) (.string stx))
  have HBF := Lib.hid (HB.out.trans (grown_below HN.out.2 (Nat.le_refl _) HB.out.size))
  have HS1' := Lib.hid (slv_set HS1.out HN.out.2)
  have HS2' := Lib.hid (slv_set HS2.out HN.out.2)
  generalize ((((((((w4.setCell ⟨w.heap.size, 0, none⟩ (.int .i64 k0)).setCell ⟨w.heap.size, 1, none⟩ (.string smat)).setCell ⟨w.heap.size, 2, none⟩ (.string snm)).setCell ⟨w.heap.size, 3, none⟩ (.slice none 0 0)).setCell ⟨w.heap.size, 4, none⟩ (.int .i64 sc)).setCell ⟨w.heap.size, 5, none⟩ (.int .i64 pc)).setCell ⟨w.heap.size, 6, none⟩ (.slice A1 mv.length c1)).setCell ⟨w.heap.size, 7, none⟩ (.slice A2 pv.length c2)).setCell ⟨w.heap.size, 8, none⟩ (.string stx) = wf at *
  have c := cell_blk HN.out.1
  have v0 := c 0; have v1 := c 1; have v2 := c 2; have v3 := c 3; have v4 := c 4; have v5 := c 5; have v6 := c 6; have v7 := c 7; have v8 := c 8
  simp at v0 v1 v2 v3 v4 v5 v6 v7 v8
  refine bodyPost_ret (v := .tuple #[.agg #[.int .i64 k0, .string smat, .string snm, .slice none 0 0, .int .i64 sc, .int .i64 pc, .slice A1 mv.length c1, .slice A2 pv.length c2, .string stx], .int .i64 0]) (by simp [results, Tryz.results21, go_sem, v0, v1, v2, v3, v4, v5, v6, v7, v8]) rfl ?_
  refine ⟨HBF.out, ?_⟩
  rw [HDE.out]
  obtain ⟨rfl, rfl, rfl⟩ := HE3.out
  exact ⟨_, ⟨A1, c1, A2, c2, rfl, rfl, HS1'.out, HS2'.out⟩, rfl⟩

end
end Go.Proofs.YtmplpbdldcokjaaGreatDoor
