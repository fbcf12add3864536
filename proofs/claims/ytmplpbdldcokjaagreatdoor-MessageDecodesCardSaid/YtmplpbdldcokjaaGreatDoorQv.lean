/- The reference's Escape and Unescape. -/
import Derived.Test.YtmplpbdldcokjaaGreatDoorX4
import Derived.Test.YtmplpbdldcokjaaGreatDoorX4
import Derived.BigQuiet
import Derived.Laws.BitsLemmas
import Derived.Deep.RegionHeld3
namespace Go.Proofs.YtmplpbdldcokjaaGreatDoor
open Go Go.RowKit Go.Shelf
set_option linter.unusedSimpArgs false
set_option linter.unusedVariables false

set_option maxHeartbeats 4000000 in
theorem rplain_any (w : World) (n : Int) : Calls Tryz.prog 55 #[.int .u8 n] w fun e w' => e = .returned (.bool (plainB n)) ∧ w = w' := by
  go_enter Tryz.func55, Tryz.ntmps55
  go_wp2
  all_goals go_ret
  all_goals refine ⟨ret_bool ?_, rfl⟩
  all_goals (rw [Bool.eq_iff_iff]; simp_all [plainB, lowerB, upperB, digitB]; try omega)
set_option maxHeartbeats 4000000 in
theorem rdigit_any (w : World) (c : UInt8) : Calls Tryz.prog 54 #[.int .u8 (c.toNat : Int)] w fun e w' => e = .returned (.int .i64 (hexV (bInt c))) ∧ w = w' := by
  have h256 : c.toNat < 256 := c.toNat_lt
  have HC : Hid (hexV (bInt c) = if digitB (c.toNat : Int) then (c.toNat : Int) - 48 else if decide (97 ≤ (c.toNat : Int)) && decide ((c.toNat : Int) ≤ 102) then (c.toNat : Int) - 87 else -1) := rfl
  rw [HC.out]
  clear HC
  generalize c.toNat = n at *
  go_enter Tryz.func54, Tryz.ntmps54
  go_wp2
  all_goals go_ret
  all_goals refine ⟨ret_int ?_, rfl⟩
  all_goals (simp_all [digitB]; try omega)

theorem ext_one (s : ByteArray) (k : Nat) (h : k < s.size) : s.extract k (k + 1) = bs [s[k]] := by
  apply ByteArray.ext
  rw [ByteArray.data_extract]
  apply Array.ext'
  simp [bs]
  rw [List.take_one, List.head?_drop, List.getElem?_eq_getElem (by simpa using h)]
  rfl
theorem ext_hex (n : Nat) (h : n < 16) : (⟨#[48, 49, 50, 51, 52, 53, 54, 55, 56, 57, 97, 98, 99, 100, 101, 102]⟩ : ByteArray).extract n (n + 1) = bs [hexC n] := by
  have : ∀ i : Fin 16, (⟨#[48, 49, 50, 51, 52, 53, 54, 55, 56, 57, 97, 98, 99, 100, 101, 102]⟩ : ByteArray).extract i.val (i.val + 1) = bs [hexC i.val] := by decide
  exact this ⟨n, h⟩
theorem str_add_c {w : World} (a b : List UInt8) (h : a.length + b.length ≤ 1000000000) : (Op.stringOp .add (bs a) (bs b)).run Tryz.prog w = .ok (.string (bs (a ++ b))) w := by
  have e : bs a ++ bs b = bs (a ++ b) := by
    apply ByteArray.ext
    rw [ByteArray.data_append]
    simp [bs]
  have h1 : (bs a).size + (bs b).size ≤ maxLen := by rw [size_bs, size_bs]; unfold maxLen; omega
  unfold maxLen at h1
  simp [Op.stringOp, e]
  omega
set_option maxHeartbeats 8000000 in
set_option maxRecDepth 100000 in
theorem rescape_any (w : World) (s : ByteArray) (hl : s.size ≤ 100000000) : Calls Tryz.prog 24 #[.string s] w (OutB w (.string (bs (escT s.data.toList)))) := by
  by_cases h0 : s = ByteArray.empty
  · subst h0
    go_enter Tryz.func24, Tryz.ntmps24
    go_wp2_with fail
    go_ret
    exact ⟨rfl, Below.refl _ _⟩
  have hne : s.data.toList ≠ [] := fun h => h0 (by apply ByteArray.ext; apply Array.ext'; simpa using h)
  have HE := Lib.hid (escT_ne hne)
  have e0 : s.toList.isEmpty = false := by
    rw [ByteArray.toList_eq]
    cases h : s.data.toList with
    | nil => exact absurd h hne
    | cons a r => rfl
  clear hne h0
  go_enter Tryz.func24, Tryz.ntmps24
  go_wp2_with fail
  clear e0
  go_loopw [4, 5] (fun o i wr => ∃ k : Nat, k ≤ s.size ∧ i = .int .i64 k ∧ o = .string (bs (escA (s.data.toList.take k))) ∧ Hid (Below w.heap.size w wr)) (fun _ i _ => s.size - (intOf i).toNat)
  case atStart => exact ⟨0, Nat.zero_le _, rfl, by rw [List.take_zero]; rfl, Below.refl _ _⟩
  case round =>
    obtain ⟨k, hk, rfl, rfl, HB⟩ := hrel
    by_cases hlk : k < s.size
    rotate_left
    focus
      obtain rfl : k = s.size := by omega
      rw [take_full]
      go_wp2_with fail
      go_ret
      exact ⟨by rw [HE.out]; rfl, HB.out⟩
    have HT := Lib.hid (take_snoc s k hlk)
    have hlA : (escA (s.data.toList.take k)).length ≤ 300000000 := by
      have := (escA_len (s.data.toList.take k)).2
      rw [List.length_take] at this
      omega
    have CP := Lib.hid (rplain_any wr (s[k].toNat : Int))
    have HC : Hid (escC s[k] = if plainB (s[k].toNat : Int) then [s[k]] else [37, hexC (s[k].toNat / 16), hexC (s[k].toNat % 16)]) := rfl
    have h256 : s[k].toNat < 256 := s[k].toNat_lt
    cases hp : plainB (s[k].toNat : Int)
    · rw [hp, if_neg Bool.false_ne_true] at HC
      rw [hp] at CP
      have a1 : ∀ y : World, (Op.stringOp .add (bs (escA (s.data.toList.take k))) ⟨#[37]⟩).run Tryz.prog y = .ok (.string (bs (escA (s.data.toList.take k) ++ [37]))) y := fun y => str_add_c _ [37] (by simp; omega)
      have a2 : ∀ y : World, (Op.stringOp .add (bs (escA (s.data.toList.take k) ++ [37])) ((⟨#[48, 49, 50, 51, 52, 53, 54, 55, 56, 57, 97, 98, 99, 100, 101, 102]⟩ : ByteArray).extract (s[k].toNat / 16) (s[k].toNat / 16 + 1))).run Tryz.prog y = .ok (.string (bs (escA (s.data.toList.take k) ++ [37] ++ [hexC (s[k].toNat / 16)]))) y := fun y => by rw [ext_hex _ (by omega)]; exact str_add_c _ _ (by simp; omega)
      have a3 : ∀ y : World, (Op.stringOp .add (bs (escA (s.data.toList.take k) ++ [37] ++ [hexC (s[k].toNat / 16)])) ((⟨#[48, 49, 50, 51, 52, 53, 54, 55, 56, 57, 97, 98, 99, 100, 101, 102]⟩ : ByteArray).extract (s[k].toNat % 16) (s[k].toNat % 16 + 1))).run Tryz.prog y = .ok (.string (bs (escA (s.data.toList.take (k + 1))))) y := fun y => by
        rw [ext_hex _ (by omega), HT.out, escA_snoc, HC.out]
        have := str_add_c (w := y) (escA (s.data.toList.take k) ++ [37] ++ [hexC (s[k].toNat / 16)]) [hexC (s[k].toNat % 16)] (by simp; omega)
        simp only [List.append_assoc, List.cons_append, List.nil_append] at this ⊢
        exact this
      clear hp
      go_wp2_with fail
      refine CP.out.mono ?_
      rintro e w1 ⟨rfl, rfl⟩
      clear CP
      generalize hcn : s[k].toNat = c at *
      generalize bs (escA (s.data.toList.take k) ++ [37] ++ [hexC (c / 16)]) = x3 at *
      generalize bs (escA (s.data.toList.take k) ++ [37]) = x2 at *
      generalize bs (escA (s.data.toList.take k)) = x1 at *
      generalize hx4 : bs (escA (s.data.toList.take (k + 1))) = x4 at *
      go_wp2_with fail
      have b1 : (0 : Int) ≤ (c : Int) / 16 ∧ (c : Int) / 16 < 16 := by omega
      have b2 : (0 : Int) ≤ (c : Int) % 16 ∧ (c : Int) % 16 < 16 := by omega
      go_quiet (fail)
      go_wp2_with fail
      go_roundw
      case rel => exact ⟨k + 1, by omega, by go_num, by rw [hx4], below_drewN HB.out _⟩
      case measure => simp [intOf]; omega
    · rw [hp, if_pos rfl] at HC
      rw [hp] at CP
      have hadd : ∀ y : World, (Op.stringOp .add (bs (escA (s.data.toList.take k))) (s.extract k (k + 1))).run Tryz.prog y = .ok (.string (bs (escA (s.data.toList.take (k + 1))))) y := fun y => by
        rw [ext_one s k hlk, HT.out, escA_snoc, HC.out]
        exact str_add_c _ _ (by simp; omega)
      clear hp
      generalize bs (escA (s.data.toList.take k)) = x1 at *
      generalize hx4 : bs (escA (s.data.toList.take (k + 1))) = x4 at *
      go_wp2_with fail
      refine CP.out.mono ?_
      rintro e w1 ⟨rfl, rfl⟩
      go_wp2_with fail
      go_roundw
      case rel => exact ⟨k + 1, by omega, by go_num, by rw [hx4], HB.out⟩
      case measure => simp [intOf]; omega

theorem rdigit_still (w : World) (c : UInt8) : Calls Tryz.prog 54 #[.int .u8 (c.toNat : Int)] w fun e w' => e = .returned (.int .i64 (hexV (bInt c))) ∧ w' = w := (rdigit_any w c).mono fun _ _ h => ⟨h.1, h.2.symm⟩
theorem unH_pct (a b : UInt8) (r out : List UInt8) (c : UInt8) (h : (bInt c == 37) = true) : unH (c :: a :: b :: r) out = if decide (hexV (bInt a) < 0) || decide (hexV (bInt b) < 0) then none else unH r (out ++ [UInt8.ofNat (16 * hexV (bInt a) + hexV (bInt b)).toNat]) := by
  rw [unH, if_pos h]
theorem unH_short (r out : List UInt8) (c : UInt8) (h : (bInt c == 37) = true) (hr : r.length < 2) : unH (c :: r) out = none := by
  match r, hr with
  | [], _ => simp [unH, h]
  | [a], _ => simp [unH, h]
theorem hexV_le2 (c : UInt8) : -1 ≤ hexV (bInt c) ∧ hexV (bInt c) ≤ 15 := hexV_le c
set_option maxHeartbeats 16000000 in
set_option maxRecDepth 100000 in
theorem runescape_any (w : World) (s : ByteArray) (hl : s.size ≤ 30000000) : Calls Tryz.prog 23 #[.string s] w (OutB w (unV s.data.toList)) := by
  by_cases h0 : s.data.toList = [37]
  · obtain rfl : s = ⟨#[37]⟩ := by apply ByteArray.ext; apply Array.ext'; simpa using h0
    go_enter Tryz.func23, Tryz.ntmps23
    go_wp2_with fail
    go_ret2
    exact ⟨rfl, Below.refl _ _⟩
  have HR : Hid (∀ (o : List UInt8) (e : Int), unO s.data.toList = (o, e) → Ending.returned (Value.tuple #[.string (bs o), .int .i64 e]) = Ending.returned (unV s.data.toList)) := fun o e h => by unfold unV; rw [h]
  have HU : Hid (unT s.data.toList = match unH s.data.toList [] with
    | none => none
    | some out => if escT out == s.data.toList then some out else none) := by
    show unT s.data.toList = _
    rw [← unR_eq]
    unfold unR
    rw [if_neg (by simpa using h0)]
    rfl
  obtain ⟨i0, hi0, hz0, hz1, hz2⟩ := info_parts infoU8
  have HI0 := Lib.hid hi0
  have HZ0 := Lib.hid hz0
  have HZ1 := Lib.hid hz1
  have HZ2 := Lib.hid hz2
  clear hi0 hz0 hz1 hz2
  have e0 : (s.toList == [37]) = false := by rw [ByteArray.toList_eq]; simpa using h0
  clear h0
  go_enter Tryz.func23, Tryz.ntmps23
  go_wp2_with fail
  clear e0
  go_loopg [4, 5] s.size (fun gf v i wx => ∃ (pos : Nat) (acc : List UInt8), i = .int .i64 pos ∧ Hid (wx.ownsRow w.heap.size 5 1 v acc.length (Lib.byteCells acc) ∧ Below w.heap.size w wx ∧ unH s.data.toList [] = unH (s.data.toList.drop pos) acc) ∧ s.size ≤ pos + gf ∧ pos ≤ s.size ∧ acc.length ≤ pos)
  case atStart => exact ⟨0, [], rfl, ⟨World.ownsRow_nil _ _ _ _, Below.refl _ _, rfl⟩, by omega, by omega, by simp⟩
  case round =>
    obtain ⟨pos, acc, rfl, HX, hfu, hps, hal⟩ := hrel
    by_cases hlt : pos < s.size
    rotate_left
    focus
      obtain rfl : pos = s.size := by omega
      have HG := Lib.hid HX.out.2.2
      rw [List.drop_of_length_le (by simp), unH] at HG
      have hcv := cv_row HX.out.1
      have CE := Lib.hid (rescape_any wr (bs acc) (by rw [size_bs]; omega))
      rw [toList_bs] at CE
      have HB := Lib.hid HX.out.2.1
      have HS : Hid (unT s.data.toList = if escT acc == s.data.toList then some acc else none) := by
        rw [Hid, HU.out, HG.out]
      generalize hes : bs (escT acc) = es at *
      generalize hac : bs acc = sa at *
      have HAC := Lib.hid hac
      have HES := Lib.hid hes
      clear hac hes
      by_cases he : escT acc = s.data.toList
      · have e4 : (es.toList == s.toList) = true := by rw [← HES.out, ByteArray.toList_eq, ByteArray.toList_eq, toList_bs]; simpa using he
        go_wp2_with fail
        refine CE.out.mono ?_
        rintro e w1 ⟨rfl, hb⟩
        have HB1 := Lib.hid (HB.out.trans (hb.mono HB.out.size))
        have hcv := cv_row (own_keep HX.out.1 hb)
        rw [HAC.out] at hcv
        have HRU := Lib.hid (HR.out acc 0 (unO_some (by rw [HS.out, he]; simp)))
        rw [HAC.out] at HRU
        clear hb
        go_wp2_with fail
        go_ret2
        exact ⟨HRU.out, HB1.out⟩
      · have e4 : (es.toList == s.toList) = false := by rw [← HES.out, ByteArray.toList_eq, ByteArray.toList_eq, toList_bs]; simpa using he
        go_wp2_with fail
        refine CE.out.mono ?_
        rintro e w1 ⟨rfl, hb⟩
        have HB1 := Lib.hid (HB.out.trans (hb.mono HB.out.size))
        clear hb
        have HRU := Lib.hid (HR.out [] 1 (unO_none (by rw [HS.out, if_neg (by simpa using he)])))
        rw [show bs [] = ⟨#[]⟩ from rfl] at HRU
        go_wp2_with fail
        go_ret2
        exact ⟨HRU.out, HB1.out⟩
    obtain ⟨g', rfl⟩ : ∃ g', gk = g' + 1 := ⟨gk - 1, by omega⟩
    have HG := Lib.hid HX.out.2.2
    rw [drop_at s pos hlt] at HG
    by_cases h37 : (s[pos].toNat : Int) = 37
    rotate_left
    focus
      have t1 : ((s[pos].toNat : Int) == 37) = false := by simpa using h37
      have t2 : ((s[pos].toNat : Int) != 37) = true := by simpa using h37
      rw [unH_ne _ _ _ t1] at HG
      have HO2 := Lib.hid (HX.out.1.alloc (.cells #[.int .u8 (s[pos].toNat : Int)] 5))
      have HBA := Lib.hid (HX.out.2.1.alloc HX.out.2.1.size (.cells #[.int .u8 (s[pos].toNat : Int)] 5))
      go_wp2_with (at_builtin; refine wpList_append_own _ rfl _ _ 62 rfl w.heap.size 5 i0 (.int .u8 0) 1 1 Tryz.underlying62 HI0.out HZ0.out HZ1.out HZ2.out rfl (by decide) _ _ _ rfl HO2.out ⟨wr.heap.size, 0, none⟩ 1 1 [.int .u8 (s[pos].toNat : Int)] rfl rfl ?c1 ?c2 ?c3 ?c4 ?c5 ?_)
      try (case c1 =>
        intro j u hj
        match j, hj with
        | 0, hj => simp at hj; subst hj; simp [Addr.add])
      case c2 => first | rfl | (intro u hu; simp at hu; subst hu; rfl)
      case c3 => unfold maxLen; omega
      case c4 => omega
      case c5 => have := HX.out.2.1.size; first | omega | (simp; omega)
      intro v' w3 hown' hgrow _
      have HO3 := Lib.hid hown'
      have HB3 := Lib.hid (HBA.out.grown hgrow (by have := HBA.out.size; omega) (fun q hq => (HO2.out.lt q hq).1))
      clear hown' hgrow
      go_wp2_with fail
      go_roundg g'
      case measure => omega
      case rel =>
        refine ⟨pos + 1, acc ++ [s[pos]], by go_num, ⟨?_, HB3.out, HG.out⟩, by omega, by omega, by simp; omega⟩
        rw [List.length_append, Lib.byteCells_append, show Lib.byteCells [s[pos]] = [.int .u8 (s[pos].toNat : Int)] from rfl]
        exact HO3.out
    have t1 : (bInt s[pos] == 37) = true := by simpa [bInt] using h37
    have t2 : ((s[pos].toNat : Int) != 37) = false := by simpa using h37
    by_cases h2 : pos + 2 < s.size
    rotate_left
    focus
      have t3 : decide ((s.size : Int) ≤ (pos : Int) + 2) = true := decide_eq_true (by omega)
      rw [unH_short _ _ _ t1 (by simp; omega)] at HG
      have HRU := Lib.hid (HR.out [] 1 (unO_none (by rw [HU.out, HG.out])))
      rw [show bs [] = ⟨#[]⟩ from rfl] at HRU
      have HB := Lib.hid HX.out.2.1
      go_wp2_with fail
      go_ret2
      exact ⟨HRU.out, HB.out⟩
    have t3 : decide ((s.size : Int) ≤ (pos : Int) + 2) = false := decide_eq_false (by omega)
    rw [drop_at s (pos + 1) (by omega), drop_at s (pos + 1 + 1) (by omega), unH_pct _ _ _ _ _ t1] at HG
    have hA := hexV_le s[pos + 1]
    have hB := hexV_le s[pos + 1 + 1]
    have CA := Lib.hid (fun (y : World) => rdigit_still y s[pos + 1])
    have CB : Hid (∀ y : World, Calls Tryz.prog 54 #[.int .u8 (s[pos + 2].toNat : Int)] y fun e w' => e = .returned (.int .i64 (hexV (bInt s[pos + 1 + 1]))) ∧ w' = y) := fun (y : World) => rdigit_still y s[pos + 1 + 1]
    generalize hexV (bInt s[pos + 1]) = DA at *
    generalize hexV (bInt s[pos + 1 + 1]) = DB at *
    by_cases hda : DA < 0
    focus
      have t4 : decide (DA < 0) = true := by simpa using hda
      rw [if_pos (by rw [t4]; rfl)] at HG
      have HRU := Lib.hid (HR.out [] 1 (unO_none (by rw [HU.out, HG.out])))
      rw [show bs [] = ⟨#[]⟩ from rfl] at HRU
      have HB := Lib.hid HX.out.2.1
      go_wp2_with fail
      refine (CA.out _).mono ?_
      rintro e w1 ⟨rfl, rfl⟩
      go_wp2_with fail
      go_ret2
      exact ⟨HRU.out, HB.out⟩
    have t4 : decide (DA < 0) = false := by simpa using hda
    by_cases hdb : DB < 0
    focus
      have t5 : decide (DB < 0) = true := by simpa using hdb
      rw [if_pos (by rw [t4, t5]; rfl)] at HG
      have HRU := Lib.hid (HR.out [] 1 (unO_none (by rw [HU.out, HG.out])))
      rw [show bs [] = ⟨#[]⟩ from rfl] at HRU
      have HB := Lib.hid HX.out.2.1
      go_wp2_with fail
      refine (CA.out _).mono ?_
      rintro e w1 ⟨rfl, rfl⟩
      go_wp2_with fail
      refine (CB.out _).mono ?_
      rintro e w1 ⟨rfl, rfl⟩
      go_wp2_with fail
      go_ret2
      exact ⟨HRU.out, HB.out⟩
    have t5 : decide (DB < 0) = false := by simpa using hdb
    rw [if_neg (by rw [t4, t5]; decide)] at HG
    go_wp2_with fail
    refine (CA.out _).mono ?_
    rintro e w1 ⟨rfl, rfl⟩
    go_wp2_with fail
    refine (CB.out _).mono ?_
    rintro e w1 ⟨rfl, rfl⟩
    go_wp2_with fail
    have HO2 := Lib.hid (HX.out.1.alloc (.cells #[.int .u8 (16 * DA + DB)] 5))
    have HBA := Lib.hid (HX.out.2.1.alloc HX.out.2.1.size (.cells #[.int .u8 (16 * DA + DB)] 5))
    have HOD : Hid ((w1.drew.alloc (.cells #[.int .u8 (16 * DA + DB)] 5)).ownsRow w.heap.size 5 1 u4 acc.length (Lib.byteCells acc)) := HO2.out
    have HBD : Hid (Below w.heap.size w (w1.drew.alloc (.cells #[.int .u8 (16 * DA + DB)] 5))) := (HX.out.2.1.drew).alloc HX.out.2.1.size _
    have hszd : w.heap.size ≤ w1.drew.heap.size := HX.out.2.1.size
    have hszd2 : w.heap.size ≤ w1.heap.size := HX.out.2.1.size
    have j1 : (0 : Int) ≤ (pos : Int) + 1 ∧ (pos : Int) + 1 < (s.size : Int) := by omega
    have j2 : (0 : Int) ≤ (pos : Int) + 2 ∧ (pos : Int) + 2 < (s.size : Int) := by omega
    have j3 : (pos : Int) + 1 < (s.size : Int) := by omega
    have j4 : (pos : Int) + 2 < (s.size : Int) := by omega
    have j5 : pos + 1 < s.size := by omega
    have j6 : pos + 2 < s.size := by omega
    have j7 : (0 : Int) ≤ (pos : Int) + 1 := by omega
    have j8 : (0 : Int) ≤ (pos : Int) + 2 := by omega
    have hw1 : IntKind.i64.wrap ((pos : Int) + 1) = (pos : Int) + 1 := by rw [IntKind.wrap_i64]; omega
    have hw2 : IntKind.i64.wrap ((pos : Int) + 2) = (pos : Int) + 2 := by rw [IntKind.wrap_i64]; omega
    have hw3 : IntKind.i64.wrap (16 * DA) = 16 * DA := by rw [IntKind.wrap_i64]; omega
    have hw4 : IntKind.i64.wrap (16 * DA + DB) = 16 * DA + DB := by rw [IntKind.wrap_i64]; omega
    have hw5 : IntKind.u8.wrap (16 * DA + DB) = 16 * DA + DB := by rw [IntKind.wrap_u8]; omega
    have hn1 : ((pos : Int) + 1).toNat = pos + 1 := by omega
    have hn2 : ((pos : Int) + 2).toNat = pos + 2 := by omega
    go_region_held3 (fun _ => True) (exact trivial) (first | (go_at_call 54; with_reducible refine (CA.out _).mono ?_; rintro e9 w9 ⟨rfl, rfl⟩) | (go_at_call 54; with_reducible refine (CB.out _).mono ?_; rintro e9 w9 ⟨rfl, rfl⟩) | (refine step_append_lies _ (by rfl) _ _ _ (by rfl) w.heap.size 5 i0 _ 1 1 Tryz.underlying62 HI0.out HZ0.out HZ1.out HZ2.out rfl (by omega) u4 acc.length (Lib.byteCells acc) (by rfl) HOD.out ⟨w1.heap.size, 0, none⟩ 1 1 [.int .u8 (16 * DA + DB)] (by rfl) (by rfl) (World.news_of_block (cs := #[.int .u8 (16 * DA + DB)]) (t := 5) (fr := (0, 0)) (heap_alloc_new w1.drew _)) (by simp [Value.oneCell']) (by omega) (by unfold maxLen; omega) (by omega) (by simp; omega) (w1.heap.size + 1) (by simp) ?_; intro gg cp6 w6 hown6 hgrow hat hlt6; have HO3 := Lib.hid hown6; have HB3 := Lib.hid (HBD.out.grown hgrow (by have := HBD.out.size; omega) (fun q hq => (HOD.out.lt q hq).1)); clear hown6 hgrow hat hlt6))
    all_goals
      (go_wp2_with fail
       go_roundg g'
       case measure => omega
       case rel =>
         refine ⟨pos + 3, acc ++ [UInt8.ofNat (16 * DA + DB).toNat], by go_num, ⟨?_, HB3.out, HG.out⟩, by omega, by omega, by simp; omega⟩
         rw [List.length_append, Lib.byteCells_append]
         have e8 : Lib.byteCells [UInt8.ofNat (16 * DA + DB).toNat] = [.int .u8 (16 * DA + DB)] := by
           show [Value.int .u8 (((UInt8.ofNat (16 * DA + DB).toNat).toNat : Nat) : Int)] = _
           rw [show (((UInt8.ofNat (16 * DA + DB).toNat).toNat : Nat) : Int) = 16 * DA + DB by simp; omega]
         rw [e8]
         exact HO3.out)

set_option maxHeartbeats 4000000 in
set_option maxRecDepth 100000 in
theorem law_escapes (w : World) (s t : List UInt8) (hs : s.length ≤ 9223372036854775807) (ht : t.length ≤ 9223372036854775807) (CA : Hid (∀ y : World, Below w.heap.size w y → Calls Tryz.prog 10 #[] y (YesP y))) : Calls Tryz.prog 8 #[.string (bs s), .string (bs t)] w (YesP w) := by
  have hsz : (bs s).size = s.length := size_bs s
  have htz : (bs t).size = t.length := size_bs t
  by_cases h6 : 600 < s.length
  · have e1 : decide ((600 : Int) < ((bs s).size : Int)) = true := decide_eq_true (by omega)
    have e2 : 600 < (bs s).size := by omega
    generalize bs s = st at *
    generalize bs t = tt at *
    go_enter Tryz.func8, Tryz.ntmps8
    go_wp2_with fail
    refine (CA.out _ (Below.refl _ _)).mono ?_
    rintro e w1 ⟨rfl, hb⟩
    go_wp2_with fail
    go_ret
    exact ⟨rfl, hb⟩
  have e1 : decide ((600 : Int) < ((bs s).size : Int)) = false := decide_eq_false (by omega)
  have e2 : ¬ 600 < (bs s).size := by omega
  by_cases h7 : 600 < t.length
  · have e3 : decide ((600 : Int) < ((bs t).size : Int)) = true := decide_eq_true (by omega)
    have e4 : 600 < (bs t).size := by omega
    generalize bs s = st at *
    generalize bs t = tt at *
    go_enter Tryz.func8, Tryz.ntmps8
    go_wp2_with fail
    refine (CA.out _ (Below.refl _ _)).mono ?_
    rintro e w1 ⟨rfl, hb⟩
    go_wp2_with fail
    go_ret
    exact ⟨rfl, hb⟩
  have e3 : decide ((600 : Int) < ((bs t).size : Int)) = false := decide_eq_false (by omega)
  have e4 : ¬ 600 < (bs t).size := by omega
  have CE := Lib.hid (fun (y : World) => escape_any y (bs s) (by omega))
  have CF := Lib.hid (fun (y : World) => rescape_any y (bs s) (by omega))
  rw [toList_bs] at CE CF
  have CU := Lib.hid (fun (y : World) => unescape_any y (bs t) (by omega))
  have CV := Lib.hid (fun (y : World) => runescape_any y (bs t) (by omega))
  rw [toList_bs] at CU CV
  unfold unV at CU CV
  clear hsz htz
  generalize bs (unO t).1 = ut at *
  generalize (unO t).2 = ue at *
  generalize bs (escT s) = es at *
  generalize bs s = st at *
  generalize bs t = tt at *
  have f1 : (es.toList == es.toList) = true := by simp
  have f2 : (ut.toList == ut.toList) = true := by simp
  have f3 : (ue == ue) = true := by simp
  go_enter Tryz.func8, Tryz.ntmps8
  go_wp2_with fail
  refine (CU.out _).mono ?_
  rintro e w1 ⟨rfl, hb⟩
  have HB1 := Lib.hid hb
  clear hb
  go_wp2_with fail
  refine (CV.out _).mono ?_
  rintro e w2 ⟨rfl, hb⟩
  have HB2 := Lib.hid (HB1.out.trans (hb.mono HB1.out.size))
  clear hb
  go_wp2_with fail
  refine (CE.out _).mono ?_
  rintro e w3 ⟨rfl, hb⟩
  have HB3 := Lib.hid (HB2.out.trans (hb.mono HB2.out.size))
  clear hb
  go_wp2_with fail
  refine (CF.out _).mono ?_
  rintro e w4 ⟨rfl, hb⟩
  have HB4 := Lib.hid (HB3.out.trans (hb.mono HB3.out.size))
  clear hb
  go_wp2_with fail
  refine (CA.out _ HB4.out).mono ?_
  rintro e w5 ⟨rfl, hb⟩
  have HB5 := Lib.hid (HB4.out.trans (hb.mono HB4.out.size))
  clear hb
  go_wp2_with fail
  go_ret
  exact ⟨rfl, HB5.out⟩
end Go.Proofs.YtmplpbdldcokjaaGreatDoor
