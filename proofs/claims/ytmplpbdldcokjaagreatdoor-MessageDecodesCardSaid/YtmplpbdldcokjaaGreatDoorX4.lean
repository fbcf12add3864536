/- Merged texts: The walks of message.plain and message.Escape. The walk of message.Unescape. -/
import Derived.Test.YtmplpbdldcokjaaGreatDoorX1
import Derived.Test.YtmplpbdldcokjaaGreatDoorXg
import Derived.Test.YtmplpbdldcokjaaGreatDoorX2
import Derived.Laws.BytesString
import Derived.Laws.BytesArg
import Derived.Laws.IdiomStrings
import Derived.Laws.OwnMore
import Derived.Laws.RangeString
import Derived.Laws.RangeAny
import Derived.Lib.OthersKept
import Derived.Shelf.Strings.FieldsFuncAny
namespace Go.Proofs.YtmplpbdldcokjaaGreatDoor
/- The walks of message.plain and message.Escape. -/
section
open Go Go.RowKit Go.Shelf
set_option linter.unusedSimpArgs false

set_option maxHeartbeats 1000000 in
theorem plain_any (w : World) (n : Int) : Calls Tryz.prog 43 #[.int .u8 n] w fun e w' => e = .returned (.bool (plainB n)) ∧ w = w' := by
  go_enter Tryz.func43, Tryz.ntmps43
  go_wp2
  all_goals go_ret
  all_goals refine ⟨ret_bool ?_, rfl⟩
  all_goals (rw [Bool.eq_iff_iff]; simp_all [plainB, lowerB, upperB, digitB]; try omega)

theorem hex_at (n : Nat) (h : n < 16) : ((hexC n).toNat : Int) = ((⟨#[48, 49, 50, 51, 52, 53, 54, 55, 56, 57, 97, 98, 99, 100, 101, 102]⟩ : ByteArray)[n]'h).toNat := by
  have : ∀ i : Fin 16, ((hexC i.val).toNat : Int) = ((⟨#[48, 49, 50, 51, 52, 53, 54, 55, 56, 57, 97, 98, 99, 100, 101, 102]⟩ : ByteArray)[i.val]'i.isLt).toNat := by decide
  exact this ⟨n, h⟩
def hexS : ByteArray := ⟨#[48, 49, 50, 51, 52, 53, 54, 55, 56, 57, 97, 98, 99, 100, 101, 102]⟩

set_option maxHeartbeats 8000000 in
set_option maxRecDepth 100000 in
theorem escape_any (w : World) (s : ByteArray) (hl : s.size ≤ 100000000) : Calls Tryz.prog 14 #[.string s] w (OutB w (.string (bs (escT s.data.toList)))) := by
  by_cases h0 : s = ByteArray.empty
  · subst h0
    go_enter Tryz.func14, Tryz.ntmps14
    go_wp2_with fail
    go_ret
    exact ⟨rfl, Below.refl _ _⟩
  have hne : s.data.toList ≠ [] := fun h => h0 (by apply ByteArray.ext; apply Array.ext'; simpa using h)
  have HE := Lib.hid (escT_ne hne)
  have e0 : s.toList.isEmpty = false := by
    rw [ByteArray.toList_eq]
    cases h : s.data.toList with
    | nil => exact absurd h hne
    | cons a r => rfl
  clear hne h0
  have HI := Lib.hid (builder_new w)
  have HB := Lib.hid (one_box w (.cells #[.pointer none, .slice none 0 0] 64)).1
  go_enter Tryz.func14, Tryz.ntmps14
  go_wp2_with fail
  clear e0
  generalize w.alloc (.cells #[.pointer none, .slice none 0 0] 64) = w0 at *
  go_loopw [4] (fun i wr => ∃ k : Nat, k ≤ s.size ∧ i = .int .i64 k ∧ Hid (IsB w.heap.size w.heap.size (escA (s.data.toList.take k)) wr ∧ Below w.heap.size w wr)) (fun i _ => s.size - (intOf i).toNat)
  case atStart => exact ⟨0, Nat.zero_le _, rfl, by rw [List.take_zero]; exact HI.out, HB.out⟩
  case round =>
    clear HI HB
    obtain ⟨k, hk, rfl, HX⟩ := hrel
    by_cases hlk : k < s.size
    rotate_left
    focus
      obtain rfl : k = s.size := by omega
      rw [take_full] at HX
      go_wp2_with fail
      refine (Builder_String_any_k _ _ _ wr HX.out.1 HX.out.2.size).mono ?_
      rintro e w3 ⟨rfl, _, hb, _⟩
      have HB3 := Lib.hid (HX.out.2.trans hb)
      clear hb
      go_wp2_with fail
      go_ret
      exact ⟨by rw [HE.out]; rfl, HB3.out⟩
    have HT := Lib.hid (take_snoc s k hlk)
    have hlA : (escA (s.data.toList.take k)).length ≤ 300000000 := by
      have := (escA_len (s.data.toList.take k)).2
      rw [List.length_take] at this
      omega
    have CP := Lib.hid (plain_any wr (s[k].toNat : Int))
    have h256 : s[k].toNat < 256 := s[k].toNat_lt
    have HC : Hid (escC s[k] = if plainB (s[k].toNat : Int) then [s[k]] else [37, hexC (s[k].toNat / 16), hexC (s[k].toNat % 16)]) := rfl
    cases hp : plainB (s[k].toNat : Int)
    · rw [hp, if_neg Bool.false_ne_true] at HC
      rw [hp] at CP
      clear hp
      go_wp2_with fail
      refine CP.out.mono ?_
      rintro e w1 ⟨rfl, rfl⟩
      clear CP
      go_wp2_with fail
      refine (wbyte_l _ _ _ 37 37 (by rfl) wr HX.out.1 (by omega) HX.out.2.size).mono ?_
      rintro e w1 ⟨rfl, hi, hf⟩
      have HI1 := Lib.hid hi
      have HB1 := Lib.hid (HX.out.2.trans hf.1)
      clear hi hf
      go_wp2_with fail
      refine (wbyte_l _ _ _ (hexC (s[k].toNat / 16)) _ (hex_at _ (by omega)) w1 HI1.out (by simp; omega) HB1.out.size).mono ?_
      rintro e w2 ⟨rfl, hi, hf⟩
      have HI2 := Lib.hid hi
      have HB2 := Lib.hid (HB1.out.trans hf.1)
      clear hi hf HI1 HB1
      go_wp2_with fail
      refine (wbyte_l _ _ _ (hexC (s[k].toNat % 16)) _ (hex_at _ (by omega)) w2 HI2.out (by simp; omega) HB2.out.size).mono ?_
      rintro e w3 ⟨rfl, hi, hf⟩
      have HI3 := Lib.hid hi
      have HB3 := Lib.hid (HB2.out.trans hf.1)
      clear hi hf HI2 HB2
      go_wp2_with fail
      go_roundw
      case rel => exact ⟨k + 1, by omega, by go_num, by rw [HT.out, escA_snoc, HC.out]; have h := HI3.out; simp only [List.append_assoc, List.cons_append, List.nil_append] at h; exact h, HB3.out⟩
      case measure => simp [intOf]; omega
    · rw [hp, if_pos rfl] at HC
      rw [hp] at CP
      clear hp
      go_wp2_with fail
      refine CP.out.mono ?_
      rintro e w1 ⟨rfl, rfl⟩
      clear CP
      go_wp2_with fail
      refine (wbyte_l _ _ _ s[k] _ rfl wr HX.out.1 (by omega) HX.out.2.size).mono ?_
      rintro e w1 ⟨rfl, hi, hf⟩
      have HI1 := Lib.hid hi
      have HB1 := Lib.hid (HX.out.2.trans hf.1)
      clear hi hf
      go_wp2_with fail
      go_roundw
      case rel => exact ⟨k + 1, by omega, by go_num, by rw [HT.out, escA_snoc, HC.out]; exact HI1.out, HB1.out⟩
      case measure => simp [intOf]; omega

end
/- The walk of message.Unescape. -/
section
open Go Go.RowKit Go.Shelf
set_option linter.unusedSimpArgs false

/-- what Unescape returns -/
def unO (l : List UInt8) : List UInt8 × Int := match unT l with
  | some o => (o, 0)
  | none => ([], 1)
def unV (l : List UInt8) : Value := .tuple #[.string (bs (unO l).1), .int .i64 (unO l).2]
theorem unO_some {l o : List UInt8} (h : unT l = some o) : unO l = (o, 0) := by unfold unO; rw [h]
theorem unO_none {l : List UInt8} (h : unT l = none) : unO l = ([], 1) := by unfold unO; rw [h]
theorem infoU8 : (Tryz.prog.info? 5).map (fun i => (i.zero, i.size, i.bytes)) = some (some (.int .u8 0), 1, 1) := by kernel_rfl
theorem cv_row {w : World} {B : Nat} {v : Value} {l : List UInt8} (h : w.ownsRow B 5 1 v l.length (Lib.byteCells l)) :
    (Go.convert 62 9 v).run Tryz.prog w = .ok (.string (bs l)) w := by
  rcases h.2 with ⟨rfl, h0⟩ | ⟨g, cap, cur, rfl, _⟩
  · have : l = [] := List.length_eq_zero_iff.1 h0
    subst this
    exact run_convert_bytes_nil w _ 5 Tryz.underlying62 Tryz.underlying5 _ _ _ Tryz.underlying9
  · exact run_convert_bytes_back (P := Tryz.prog) w 62 9 5 ⟨g, 0, none⟩ cap l Tryz.underlying62 Tryz.underlying5 Tryz.underlying9 (fun j hj => h.cells (g := g) rfl j _ (by simp [Lib.byteCells, hj]))
theorem hexV_index (c : UInt8) : Lib.indexByte [48, 49, 50, 51, 52, 53, 54, 55, 56, 57, 97, 98, 99, 100, 101, 102] ((c.toNat : Int).toNat.toUInt8) = hexV (bInt c) := by
  have := u8_all (p := fun c => decide (Lib.indexByte [48, 49, 50, 51, 52, 53, 54, 55, 56, 57, 97, 98, 99, 100, 101, 102] ((c.toNat : Int).toNat.toUInt8) = hexV (bInt c))) (by decide +kernel) c
  simpa using this
theorem hexV_le (c : UInt8) : -1 ≤ hexV (bInt c) ∧ hexV (bInt c) ≤ 15 := by
  have := u8_all (p := fun c => decide (-1 ≤ hexV (bInt c) ∧ hexV (bInt c) ≤ 15)) (by decide +kernel) c
  simpa using this
theorem drop_at (s : ByteArray) (k : Nat) (h : k < s.size) : s.data.toList.drop k = s[k] :: s.data.toList.drop (k + 1) := by
  rw [List.drop_eq_getElem_cons (by simpa using h)]; rfl

set_option maxHeartbeats 16000000 in
set_option maxRecDepth 100000 in
theorem unescape_any (w : World) (s : ByteArray) (hl : s.size ≤ 30000000) : Calls Tryz.prog 15 #[.string s] w (OutB w (unV s.data.toList)) := by
  by_cases h0 : s.data.toList = [37]
  · obtain rfl : s = ⟨#[37]⟩ := by apply ByteArray.ext; apply Array.ext'; simpa using h0
    go_enter Tryz.func15, Tryz.ntmps15
    go_wp2_with fail
    go_ret2
    exact ⟨rfl, Below.refl _ _⟩
  have HR : Hid (∀ (o : List UInt8) (e : Int), unO s.data.toList = (o, e) → Ending.returned (Value.tuple #[.string (bs o), .int .i64 e]) = Ending.returned (unV s.data.toList)) := fun o e h => by unfold unV; rw [h]
  have HU : Hid (unT s.data.toList = match unG s.data.toList 0 0 [] with
    | none => none
    | some (k, out) => if decide (0 < k) || !(escT out == s.data.toList) then none else some out) := by
    show unT s.data.toList = _
    unfold unT
    rw [if_neg (by simpa using h0)]
    rfl
  obtain ⟨i0, hi0, hz0, hz1, hz2⟩ := info_parts infoU8
  have HI0 := Lib.hid hi0
  have HZ0 := Lib.hid hz0
  have HZ1 := Lib.hid hz1
  have HZ2 := Lib.hid hz2
  clear hi0 hz0 hz1 hz2
  have e0 : (s.toList == [37]) = false := by rw [ByteArray.toList_eq]; simpa using h0
  clear h0
  go_enter Tryz.func15, Tryz.ntmps15
  go_wp2_with fail
  clear e0
  go_loopg [4, 5, 6] s.size (fun gf v xv kv wx => ∃ (pos : Nat) (x k : Int) (acc : List UInt8), xv = .int .i64 x ∧ kv = .int .i64 k ∧ Hid (wx.ownsRow w.heap.size 5 1 v acc.length (Lib.byteCells acc) ∧ wx.heap[w.heap.size]? = some (.stringIter s pos) ∧ Below w.heap.size w wx ∧ unG s.data.toList 0 0 [] = unG (s.data.toList.drop pos) x k acc) ∧ s.size ≤ pos + gf ∧ pos ≤ s.size ∧ acc.length ≤ pos ∧ 0 ≤ k ∧ k ≤ 2 ∧ 0 ≤ x ∧ (k = 2 → x = 0) ∧ (k = 1 → x ≤ 15))
  case atStart => exact ⟨0, 0, 0, [], rfl, rfl, ⟨World.ownsRow_nil _ _ _ _, World.iter_heap w s 0, (Below.refl _ w).alloc (Nat.le_refl _) _, rfl⟩, by omega, by omega, by simp, by omega, by omega, by omega, by omega, by omega⟩
  case round =>
    obtain ⟨pos, x, k, acc, rfl, rfl, HX, hfu, hps, hal, hk0, hk2, hx0, hx2, hx1⟩ := hrel
    by_cases hlt : pos < s.size
    rotate_left
    focus
      obtain rfl : pos = s.size := by omega
      have hnx : ∀ ty, (Instr.next (.pointer (some ⟨w.heap.size, 0, none⟩)) true ty).run Tryz.prog wr = _ := fun ty => Lib.run_next_end_at wr w.heap.size s s.size ty HX.out.2.1 hlt
      have HG := Lib.hid HX.out.2.2.2
      rw [List.drop_of_length_le (by simp), unG] at HG
      by_cases h : 0 < k
      focus
        have e3 : decide (0 < k) = true := by simpa using h
        have HN : Hid (unT s.data.toList = none) := by
          rw [Hid, HU.out, HG.out]
          simp only [e3, Bool.true_or, if_true]
        have HRU := Lib.hid (HR.out [] 1 (unO_none HN.out))
        rw [show bs [] = ⟨#[]⟩ from rfl] at HRU
        have HB := Lib.hid HX.out.2.2.1
        go_wp2_with fail
        go_ret2
        exact ⟨HRU.out, HB.out⟩
      have e3 : decide (0 < k) = false := by simpa using h
      have hcv := cv_row HX.out.1
      have CE := Lib.hid (escape_any wr (bs acc) (by rw [size_bs]; omega))
      rw [toList_bs] at CE
      have HB := Lib.hid HX.out.2.2.1
      have HS : Hid (unT s.data.toList = if (false || !(escT acc == s.data.toList)) = true then none else some acc) := by
        rw [Hid, HU.out, HG.out]
        simp only [e3]
      generalize hes : bs (escT acc) = es at *
      generalize hac : bs acc = sa at *
      have HAC := Lib.hid hac
      have HES := Lib.hid hes
      clear hac hes
      by_cases he : escT acc = s.data.toList
      · have e4 : (es.toList == s.toList) = true := by rw [← HES.out, ByteArray.toList_eq, ByteArray.toList_eq, toList_bs]; simpa using he
        go_wp2_with fail
        refine CE.out.mono ?_
        rintro e w1 ⟨rfl, hb⟩
        have HB1 := Lib.hid (HB.out.trans (hb.mono HB.out.size))
        have hcv := cv_row (own_keep HX.out.1 hb)
        rw [HAC.out] at hcv
        have HRU := Lib.hid (HR.out acc 0 (unO_some (by rw [HS.out, he]; simp)))
        rw [HAC.out] at HRU
        clear hb
        go_wp2_with fail
        go_ret2
        exact ⟨HRU.out, HB1.out⟩
      · have e4 : (es.toList == s.toList) = false := by rw [← HES.out, ByteArray.toList_eq, ByteArray.toList_eq, toList_bs]; simpa using he
        go_wp2_with fail
        refine CE.out.mono ?_
        rintro e w1 ⟨rfl, hb⟩
        have HB1 := Lib.hid (HB.out.trans (hb.mono HB.out.size))
        clear hb
        have HRU := Lib.hid (HR.out [] 1 (unO_none (by rw [HS.out, if_pos (by simpa using he)])))
        rw [show bs [] = ⟨#[]⟩ from rfl] at HRU
        go_wp2_with fail
        go_ret2
        exact ⟨HRU.out, HB1.out⟩
    obtain ⟨g', rfl⟩ : ∃ g', gk = g' + 1 := ⟨gk - 1, by omega⟩
    have HG := Lib.hid HX.out.2.2.2
    rw [drop_at s pos hlt, unG] at HG
    by_cases ha : s[pos].toNat < 128
    rotate_left
    focus
      have hd := decode_high s pos hlt (by omega)
      have hd2 := decode_le s pos
      have hnx : ∀ ty, (Instr.next (.pointer (some ⟨w.heap.size, 0, none⟩)) true ty).run Tryz.prog wr = _ := fun ty => Lib.run_next_any_at wr w.heap.size s pos ty HX.out.2.1 hlt
      have HB2 := Lib.hid (Lib.below_iterAt HX.out.2.2.1 (Nat.le_refl w.heap.size) s (pos + (Utf8.decode s pos).2))
      generalize wr.iterAt w.heap.size s (pos + (Utf8.decode s pos).2) = w1 at *
      generalize (Utf8.decode s pos).1 = R at *
      have e1 : ((R : Int) == 37) = false := by simp; omega
      have e2 : decide ((R : Int) < 128) = false := by simp; omega
      have HN : Hid (unT s.data.toList = none) := by
        rw [Hid, HU.out, HG.out]
        have b1 : decide (bInt s[pos] < 128) = false := by unfold bInt; simp; omega
        have b2 : (bInt s[pos] == 37) = false := by unfold bInt; simp; omega
        rw [b1, b2]
        by_cases h : 0 < k
        · rw [if_pos (by simpa using h), if_pos (by simp)]
        · rw [if_neg (by simpa using h), if_neg (by decide), Bool.false_and, if_neg (by decide)]
      have HRU := Lib.hid (HR.out [] 1 (unO_none HN.out))
      rw [show bs [] = ⟨#[]⟩ from rfl] at HRU
      by_cases h : 0 < k
      · have e3 : decide (0 < k) = true := by simpa using h
        go_wp2_with fail
        go_ret2
        exact ⟨HRU.out, HB2.out⟩
      · have e3 : decide (0 < k) = false := by simpa using h
        go_wp2_with fail
        go_ret2
        exact ⟨HRU.out, HB2.out⟩
    have hnx : ∀ ty, (Instr.next (.pointer (some ⟨w.heap.size, 0, none⟩)) true ty).run Tryz.prog wr = _ := fun ty => Lib.run_next_ascii_at wr w.heap.size s pos ty HX.out.2.1 hlt ha
    have HIT := Lib.hid (Lib.iterAt_heap wr w.heap.size s pos (pos + 1) HX.out.2.1)
    have HO := Lib.hid (own_iterAt HX.out.1 HX.out.2.1 (pos + 1))
    have HB := Lib.hid (Lib.below_iterAt HX.out.2.2.1 (Nat.le_refl w.heap.size) s (pos + 1))
    generalize wr.iterAt w.heap.size s (pos + 1) = w1 at *
    have CI := Lib.hid (strings_IndexByte ⟨#[48, 49, 50, 51, 52, 53, 54, 55, 56, 57, 97, 98, 99, 100, 101, 102]⟩ (s[pos].toNat : Int) w1)
    rw [show (⟨#[48, 49, 50, 51, 52, 53, 54, 55, 56, 57, 97, 98, 99, 100, 101, 102]⟩ : ByteArray).data.toList = [48, 49, 50, 51, 52, 53, 54, 55, 56, 57, 97, 98, 99, 100, 101, 102] from rfl, hexV_index] at CI
    have CP := Lib.hid (plain_any w1 (s[pos].toNat : Int))
    have hD := hexV_le s[pos]
    rw [show decide (bInt s[pos] < 128) = true from decide_eq_true (by unfold bInt; omega), if_pos rfl] at HG
    rw [show bInt s[pos] = (s[pos].toNat : Int) from rfl] at HG hD CI
    have HC := Lib.hid (rfl : s[pos] = s[pos])
    generalize hexV (s[pos].toNat : Int) = D at *
    generalize hn : s[pos].toNat = n at *
    have HNN := Lib.hid hn
    clear hn
    have ha' : decide ((n : Int) < 128) = true := by simp; omega
    by_cases hk : 0 < k
    · rw [if_pos (by simpa using hk)] at HG
      have t0 : decide (0 < k) = true := by simpa using hk
      by_cases hd : D < 0
      focus
        have t1 : decide (D < 0) = true := by simpa using hd
        rw [if_pos t1] at HG
        have HRU := Lib.hid (HR.out [] 1 (unO_none (by rw [HU.out, HG.out])))
        rw [show bs [] = ⟨#[]⟩ from rfl] at HRU
        go_wp2_with fail
        refine CI.out.mono ?_
        rintro e w2 ⟨rfl, rfl⟩
        go_wp2_with fail
        go_ret2
        exact ⟨HRU.out, HB.out⟩
      have t1 : decide (D < 0) = false := by simpa using hd
      rw [if_neg (by rw [t1]; decide)] at HG
      by_cases hk1 : k = 1
      · subst hk1
        have hx := hx1 rfl
        rw [if_pos (by decide)] at HG
        go_wp2_with fail
        refine CI.out.mono ?_
        rintro e w2 ⟨rfl, rfl⟩
        have HO2 := Lib.hid (HO.out.alloc (.cells #[.int .u8 (x * 16 + D)] 5))
        have HBA := Lib.hid (HB.out.alloc HB.out.size (.cells #[.int .u8 (x * 16 + D)] 5))
        go_wp2_with (at_builtin; refine wpList_append_own _ rfl _ _ 62 rfl w.heap.size 5 i0 (.int .u8 0) 1 1 Tryz.underlying62 HI0.out HZ0.out HZ1.out HZ2.out rfl (by decide) _ _ _ rfl HO2.out ⟨w2.heap.size, 0, none⟩ 1 1 [.int .u8 (x * 16 + D)] rfl rfl ?c1 ?c2 ?c3 ?c4 ?c5 ?_)
        try (case c1 =>
          intro j u hj
          match j, hj with
          | 0, hj => simp at hj; subst hj; simp [Addr.add])
        case c2 => first | rfl | (intro u hu; simp at hu; subst hu; rfl)
        case c3 => unfold maxLen; omega
        case c4 => omega
        case c5 => have := HB.out.size; first | omega | (simp; omega)
        intro v' w3 hown' hgrow _
        have HO3 := Lib.hid hown'
        have HB3 := Lib.hid (HBA.out.grown hgrow (by have := HBA.out.size; omega) (fun q hq => (HO2.out.lt q hq).1))
        have HIT3 := Lib.hid ((hgrow.block w.heap.size (by have := heap_lt HIT.out; simp; omega) (own_ne_iter HO.out HIT.out)).trans ((Below.heap_alloc _ _ _ (heap_lt HIT.out)).trans HIT.out))
        clear hown' hgrow
        go_wp2_with fail
        go_roundg g'
        case measure => omega
        case rel =>
          refine ⟨pos + 1, x * 16 + D, 0, acc ++ [UInt8.ofNat (x * 16 + D).toNat], rfl, rfl, ⟨?_, HIT3.out, HB3.out, HG.out⟩, by omega, by omega, by simp; omega, by omega, by omega, by omega, by omega, by omega⟩
          rw [List.length_append, Lib.byteCells_append]
          have e8 : Lib.byteCells [UInt8.ofNat (x * 16 + D).toNat] = [.int .u8 (x * 16 + D)] := by
            show [Value.int .u8 (((UInt8.ofNat (x * 16 + D).toNat).toNat : Nat) : Int)] = _
            rw [show (((UInt8.ofNat (x * 16 + D).toNat).toNat : Nat) : Int) = x * 16 + D by simp; omega]
          rw [e8]
          exact HO3.out
      · obtain rfl : k = 2 := by omega
        have hx := hx2 rfl
        subst hx
        rw [if_neg (by decide)] at HG
        go_wp2_with fail
        refine CI.out.mono ?_
        rintro e w2 ⟨rfl, rfl⟩
        go_wp2_with fail
        go_roundg g'
        case measure => omega
        case rel => exact ⟨pos + 1, 0 * 16 + D, 1, acc, by first | rfl | simp, rfl, ⟨HO.out, HIT.out, HB.out, HG.out⟩, by omega, by omega, by omega, by omega, by omega, by omega, by omega, by omega⟩
    · obtain rfl : k = 0 := by omega
      rw [if_neg (by decide)] at HG
      by_cases h37 : (n : Int) = 37
      · have t1 : ((n : Int) == 37) = true := by simpa using h37
        rw [if_pos t1] at HG
        obtain rfl : n = 37 := by omega
        go_wp2_with fail
        refine CI.out.mono ?_
        rintro e w2 ⟨rfl, rfl⟩
        go_wp2_with fail
        go_roundg g'
        case measure => omega
        case rel => exact ⟨pos + 1, 0, 2, acc, rfl, rfl, ⟨HO.out, HIT.out, HB.out, HG.out⟩, by omega, by omega, by omega, by omega, by omega, by omega, by omega, by omega⟩
      have t1 : ((n : Int) == 37) = false := by simpa using h37
      rw [if_neg (by rw [t1]; decide), Bool.true_and] at HG
      cases hp : plainB (n : Int)
      · rw [hp] at HG CP
        rw [if_neg (by decide)] at HG
        have HRU := Lib.hid (HR.out [] 1 (unO_none (by rw [HU.out, HG.out])))
        rw [show bs [] = ⟨#[]⟩ from rfl] at HRU
        go_wp2_with fail
        refine CI.out.mono ?_
        rintro e w2 ⟨rfl, rfl⟩
        go_wp2_with fail
        refine CP.out.mono ?_
        rintro e w2 ⟨rfl, rfl⟩
        go_wp2_with fail
        go_ret2
        exact ⟨HRU.out, HB.out⟩
      · rw [hp] at HG CP
        rw [if_pos rfl] at HG
        go_wp2_with fail
        refine CI.out.mono ?_
        rintro e w2 ⟨rfl, rfl⟩
        go_wp2_with fail
        refine CP.out.mono ?_
        rintro e w2 ⟨rfl, rfl⟩
        have HO2 := Lib.hid (HO.out.alloc (.cells #[.int .u8 (n : Int)] 5))
        have HBA := Lib.hid (HB.out.alloc HB.out.size (.cells #[.int .u8 (n : Int)] 5))
        go_wp2_with (at_builtin; refine wpList_append_own _ rfl _ _ 62 rfl w.heap.size 5 i0 (.int .u8 0) 1 1 Tryz.underlying62 HI0.out HZ0.out HZ1.out HZ2.out rfl (by decide) _ _ _ rfl HO2.out ⟨w2.heap.size, 0, none⟩ 1 1 [.int .u8 (n : Int)] rfl rfl ?c1 ?c2 ?c3 ?c4 ?c5 ?_)
        try (case c1 =>
          intro j u hj
          match j, hj with
          | 0, hj => simp at hj; subst hj; simp [Addr.add])
        case c2 => first | rfl | (intro u hu; simp at hu; subst hu; rfl)
        case c3 => unfold maxLen; omega
        case c4 => omega
        case c5 => have := HB.out.size; first | omega | (simp; omega)
        intro v' w3 hown' hgrow _
        have HO3 := Lib.hid hown'
        have HB3 := Lib.hid (HBA.out.grown hgrow (by have := HBA.out.size; omega) (fun q hq => (HO2.out.lt q hq).1))
        have HIT3 := Lib.hid ((hgrow.block w.heap.size (by have := heap_lt HIT.out; simp; omega) (own_ne_iter HO.out HIT.out)).trans ((Below.heap_alloc _ _ _ (heap_lt HIT.out)).trans HIT.out))
        clear hown' hgrow
        go_wp2_with fail
        go_roundg g'
        case measure => omega
        case rel =>
          refine ⟨pos + 1, x, 0, acc ++ [s[pos]], rfl, rfl, ⟨?_, HIT3.out, HB3.out, HG.out⟩, by omega, by omega, by simp; omega, by omega, by omega, by omega, by omega, by omega⟩
          rw [List.length_append, Lib.byteCells_append, show Lib.byteCells [s[pos]] = [.int .u8 (s[pos].toNat : Int)] from rfl, HNN.out]
          exact HO3.out

end
end Go.Proofs.YtmplpbdldcokjaaGreatDoor
