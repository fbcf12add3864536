/- The walks of message.plain and message.Escape. -/
import Derived.Test.YtmplpbdldcokjaaGreatDoorMa
import Derived.Test.YtmplpbdldcokjaaGreatDoorXg
namespace Go.Proofs.YtmplpbdldcokjaaGreatDoor
open Go Go.RowKit Go.Shelf
set_option linter.unusedSimpArgs false

set_option maxHeartbeats 1000000 in
theorem plain_any (w : World) (n : Int) : Calls Tryz.prog 43 #[.int .u8 n] w fun e w' => e = .returned (.bool (plainB n)) ∧ w = w' := by
  go_enter Tryz.func43, Tryz.ntmps43
  go_wp2
  all_goals go_ret
  all_goals refine ⟨ret_bool ?_, rfl⟩
  all_goals (rw [Bool.eq_iff_iff]; simp_all [plainB, lowerB, upperB, digitB]; try omega)

theorem hex_at (n : Nat) (h : n < 16) : ((hexC n).toNat : Int) = ((⟨#[48, 49, 50, 51, 52, 53, 54, 55, 56, 57, 97, 98, 99, 100, 101, 102]⟩ : ByteArray)[n]'h).toNat := by
  have : ∀ i : Fin 16, ((hexC i.val).toNat : Int) = ((⟨#[48, 49, 50, 51, 52, 53, 54, 55, 56, 57, 97, 98, 99, 100, 101, 102]⟩ : ByteArray)[i.val]'i.isLt).toNat := by decide
  exact this ⟨n, h⟩
def hexS : ByteArray := ⟨#[48, 49, 50, 51, 52, 53, 54, 55, 56, 57, 97, 98, 99, 100, 101, 102]⟩

set_option maxHeartbeats 8000000 in
set_option maxRecDepth 100000 in
theorem escape_any (w : World) (s : ByteArray) (hl : s.size ≤ 100000000) : Calls Tryz.prog 14 #[.string s] w (OutB w (.string (bs (escT s.data.toList)))) := by
  by_cases h0 : s = ByteArray.empty
  · subst h0
    go_enter Tryz.func14, Tryz.ntmps14
    go_wp2_with fail
    go_ret
    exact ⟨rfl, Below.refl _ _⟩
  have hne : s.data.toList ≠ [] := fun h => h0 (by apply ByteArray.ext; apply Array.ext'; simpa using h)
  have HE := Lib.hid (escT_ne hne)
  have e0 : s.toList.isEmpty = false := by
    rw [ByteArray.toList_eq]
    cases h : s.data.toList with
    | nil => exact absurd h hne
    | cons a r => rfl
  clear hne h0
  have HI := Lib.hid (builder_new w)
  have HB := Lib.hid (one_box w (.cells #[.pointer none, .slice none 0 0] 64)).1
  go_enter Tryz.func14, Tryz.ntmps14
  go_wp2_with fail
  clear e0
  generalize w.alloc (.cells #[.pointer none, .slice none 0 0] 64) = w0 at *
  go_loopw [4] (fun i wr => ∃ k : Nat, k ≤ s.size ∧ i = .int .i64 k ∧ Hid (IsB w.heap.size w.heap.size (escA (s.data.toList.take k)) wr ∧ Below w.heap.size w wr)) (fun i _ => s.size - (intOf i).toNat)
  case atStart => exact ⟨0, Nat.zero_le _, rfl, by rw [List.take_zero]; exact HI.out, HB.out⟩
  case round =>
    clear HI HB
    obtain ⟨k, hk, rfl, HX⟩ := hrel
    by_cases hlk : k < s.size
    rotate_left
    focus
      obtain rfl : k = s.size := by omega
      rw [take_full] at HX
      go_wp2_with fail
      refine (Builder_String_any_k _ _ _ wr HX.out.1 HX.out.2.size).mono ?_
      rintro e w3 ⟨rfl, _, hb, _⟩
      have HB3 := Lib.hid (HX.out.2.trans hb)
      clear hb
      go_wp2_with fail
      go_ret
      exact ⟨by rw [HE.out]; rfl, HB3.out⟩
    have HT := Lib.hid (take_snoc s k hlk)
    have hlA : (escA (s.data.toList.take k)).length ≤ 300000000 := by
      have := (escA_len (s.data.toList.take k)).2
      rw [List.length_take] at this
      omega
    have CP := Lib.hid (plain_any wr (s[k].toNat : Int))
    have h256 : s[k].toNat < 256 := s[k].toNat_lt
    have HC : Hid (escC s[k] = if plainB (s[k].toNat : Int) then [s[k]] else [37, hexC (s[k].toNat / 16), hexC (s[k].toNat % 16)]) := rfl
    cases hp : plainB (s[k].toNat : Int)
    · rw [hp, if_neg Bool.false_ne_true] at HC
      rw [hp] at CP
      clear hp
      go_wp2_with fail
      refine CP.out.mono ?_
      rintro e w1 ⟨rfl, rfl⟩
      clear CP
      go_wp2_with fail
      refine (wbyte_l _ _ _ 37 37 (by rfl) wr HX.out.1 (by omega) HX.out.2.size).mono ?_
      rintro e w1 ⟨rfl, hi, hf⟩
      have HI1 := Lib.hid hi
      have HB1 := Lib.hid (HX.out.2.trans hf.1)
      clear hi hf
      go_wp2_with fail
      refine (wbyte_l _ _ _ (hexC (s[k].toNat / 16)) _ (hex_at _ (by omega)) w1 HI1.out (by simp; omega) HB1.out.size).mono ?_
      rintro e w2 ⟨rfl, hi, hf⟩
      have HI2 := Lib.hid hi
      have HB2 := Lib.hid (HB1.out.trans hf.1)
      clear hi hf HI1 HB1
      go_wp2_with fail
      refine (wbyte_l _ _ _ (hexC (s[k].toNat % 16)) _ (hex_at _ (by omega)) w2 HI2.out (by simp; omega) HB2.out.size).mono ?_
      rintro e w3 ⟨rfl, hi, hf⟩
      have HI3 := Lib.hid hi
      have HB3 := Lib.hid (HB2.out.trans hf.1)
      clear hi hf HI2 HB2
      go_wp2_with fail
      go_roundw
      case rel => exact ⟨k + 1, by omega, by go_num, by rw [HT.out, escA_snoc, HC.out]; have h := HI3.out; simp only [List.append_assoc, List.cons_append, List.nil_append] at h; exact h, HB3.out⟩
      case measure => simp [intOf]; omega
    · rw [hp, if_pos rfl] at HC
      rw [hp] at CP
      clear hp
      go_wp2_with fail
      refine CP.out.mono ?_
      rintro e w1 ⟨rfl, rfl⟩
      clear CP
      go_wp2_with fail
      refine (wbyte_l _ _ _ s[k] _ rfl wr HX.out.1 (by omega) HX.out.2.size).mono ?_
      rintro e w1 ⟨rfl, hi, hf⟩
      have HI1 := Lib.hid hi
      have HB1 := Lib.hid (HX.out.2.trans hf.1)
      clear hi hf
      go_wp2_with fail
      go_roundw
      case rel => exact ⟨k + 1, by omega, by go_num, by rw [HT.out, escA_snoc, HC.out]; exact HI1.out, HB1.out⟩
      case measure => simp [intOf]; omega
end Go.Proofs.YtmplpbdldcokjaaGreatDoor
