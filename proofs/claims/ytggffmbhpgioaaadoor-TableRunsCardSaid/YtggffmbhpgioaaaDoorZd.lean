/- The walk of the program's Key. -/
import Derived.Test.YtggffmbhpgioaaaDoorZc
namespace Go.Proofs.YtggffmbhpgioaaaDoor
open Go Go.RowKit Go.Shelf
set_option linter.unusedSimpArgs false

theorem bcells (l : List UInt8) : Lib.strCells ⟨l.toArray⟩ = Lib.byteCells l := by rw [Lib.strCells_eq]
theorem builder_new (w : World) : Lib.IsBuilder 65 5 w.heap.size w.heap.size (Lib.byteCells []) (w.alloc (.cells #[.pointer none, .slice none 0 0] 65)) :=
  .inl ⟨Nat.le_refl _, _, heap_alloc_new w _, World.ownsRow_nil _ _ _ _, by simp [Value.ownBlock]⟩
theorem wstr_l (B b : Nat) (xs ys : List UInt8) (w : World) (h : Lib.IsBuilder 65 5 B b (Lib.byteCells xs) w) (hl : xs.length + ys.length ≤ 1000000000) (hB : B ≤ w.heap.size) :
    Calls Tryd.prog 26 #[.pointer (some ⟨b, 0, none⟩), .string ⟨ys.toArray⟩] w fun e w' => (∃ n, e = .returned (.tuple #[.int .i64 n, .nilIface])) ∧ Lib.IsBuilder 65 5 B b (Lib.byteCells (xs ++ ys)) w' ∧ Below B w w' :=
  (wstr_any B b (Lib.byteCells xs) ⟨ys.toArray⟩ w h (by rw [Lib.byteCells_length]; show xs.length + ys.toArray.size ≤ _; rw [List.size_toArray]; omega) hB).mono fun e w' hy => ⟨⟨_, hy.1⟩, .inr (by rw [Lib.byteCells_append, ← bcells ys]; exact hy.2.1), hy.2.2⟩
theorem wbyte_l (B b : Nat) (xs : List UInt8) (c : UInt8) (n : Int) (hc : (c.toNat : Int) = n) (w : World) (h : Lib.IsBuilder 65 5 B b (Lib.byteCells xs) w) (hl : xs.length ≤ 1000000000) (hB : B ≤ w.heap.size) :
    Calls Tryd.prog 28 #[.pointer (some ⟨b, 0, none⟩), .int .u8 n] w fun e w' => e = .returned .nilIface ∧ Lib.IsBuilder 65 5 B b (Lib.byteCells (xs ++ [c])) w' ∧ Below B w w' :=
  (wbyte_any B b (Lib.byteCells xs) n w h (by rw [Lib.byteCells_length]; omega) hB).mono fun e w' hy => ⟨hy.1, .inr (by rw [Lib.byteCells_append, show Lib.byteCells [c] = [.int .u8 (c.toNat : Int)] from rfl, hc]; exact hy.2.1), hy.2.2⟩

set_option maxHeartbeats 4000000 in
set_option maxRecDepth 100000 in
theorem key_any (w : World) (A : Option Addr) (ca : Nat) (l : List Int) (role : Int) (hl : l.length ≤ 1000000) (hr : I64 role) (hi : ∀ n ∈ l, I64 n) (ha : IntS w A l) (ht : Tb w) :
    Calls Tryd.prog 11 #[.slice A l.length ca, .int .i64 role] w (OutB w (.string ⟨(keyF l role).toArray⟩)) := by
  have HA := Lib.hid ha
  have HT := Lib.hid ht
  have HI := Lib.hid hi
  have HR := Lib.hid hr
  have HL := Lib.hid hl
  have HN := Lib.hid (builder_new w)
  have HB0 := Lib.hid ((Below.refl w.heap.size w).alloc (Nat.le_refl _) (.cells #[.pointer none, .slice none 0 0] 65))
  clear ha ht hi hr
  go_enter Tryd.func11, Tryd.ntmps11
  go_wp2_with fail
  generalize w.alloc (.cells #[.pointer none, .slice none 0 0] 65) = w0 at *
  refine (itoa_below w0 role HR.out (HT.out.below HB0.out)).mono ?_
  rintro e w1 ⟨rfl, hb⟩
  have HN1 := Lib.hid (isb_keep HN.out hb)
  have HB1 := Lib.hid (HB0.out.trans (hb.mono HB0.out.size))
  clear hb
  go_wp2_with fail
  have hr2 := Lib.itoa_length_le role HR.out.1 HR.out.2
  have W1 := Lib.hid (wstr_l _ _ _ (Lib.itoa role) w1 HN1.out (by simp; omega) HB1.out.size)
  rw [List.nil_append] at W1
  refine W1.out.mono ?_
  rintro e w2 ⟨⟨n2, rfl⟩, hn2, hb⟩
  have HB2 := Lib.hid (HB1.out.trans hb)
  have W2 := Lib.hid (wbyte_l _ _ _ 58 58 (by rfl) w2 hn2 (by omega) HB2.out.size)
  clear hn2 hb hr2
  go_wp2_with fail
  refine W2.out.mono ?_
  rintro e w3 ⟨rfl, hn3, hb⟩
  have HB3 := Lib.hid (HB2.out.trans hb)
  have HN3 := Lib.hid hn3
  clear hn3 hb W1 W2
  go_wp2_with fail
  go_loopw [6, 7, 14] (fun _ _ i wr => ∃ k : Nat, k ≤ l.length ∧ i = .int .i64 k ∧ Hid (Lib.IsBuilder 65 5 w.heap.size w.heap.size (Lib.byteCells (keyF (l.take k) role)) wr ∧ Below w.heap.size w wr)) (fun _ _ i _ => l.length - (intOf i).toNat)
  case atStart => exact ⟨0, Nat.zero_le _, rfl, by rw [List.take_zero]; unfold keyF; rw [keyG, List.append_nil]; exact HN3.out, HB3.out⟩
  case round =>
    obtain ⟨k, hk, rfl, HX⟩ := hrel
    by_cases hlk : k < l.length
    rotate_left
    · obtain rfl : k = l.length := by omega
      rw [List.take_length] at HX
      have S := Lib.hid (Builder_String_any _ _ _ wr HX.out.1 HX.out.2.size)
      go_wp2_with fail
      refine S.out.mono ?_
      rintro e w9 ⟨rfl, hb⟩
      have HB9 := Lib.hid (HX.out.2.trans hb)
      clear hb S
      go_wp2_with fail
      go_ret
      exact ⟨rfl, HB9.out⟩
    obtain ⟨b, o, rfl, hbl, hc⟩ := (HA.out.keep HX.out.2).at k hlk
    have hIk := HI.out l[k] (List.getElem_mem hlk)
    have h2 := Lib.itoa_length_le l[k] hIk.1 hIk.2
    have hlen : (keyF (l.take k) role).length ≤ 23000000 := by
      have := keyF_len (l := l.take k) HR.out (fun n hn => HI.out n (List.mem_of_mem_take hn))
      simp only [List.length_take] at this
      omega
    by_cases hk0 : k = 0
    focus
      have t1 : decide ((0 : Int) < (k : Int)) = false := by simp; omega
      have t2 : ¬ 0 < k := by omega
      have HK := Lib.hid (keyF_take (role := role) hlk)
      rw [if_pos hk0, List.nil_append] at HK
      clear hk0
      go_wp2_with fail
      refine (itoa_below wr l[k] hIk (HT.out.below HX.out.2)).mono ?_
      rintro e w5 ⟨rfl, hb⟩
      have HN5 := Lib.hid (isb_keep HX.out.1 hb)
      have HB5 := Lib.hid (HX.out.2.trans (hb.mono HX.out.2.size))
      have W3 := Lib.hid (wstr_l _ _ _ (Lib.itoa l[k]) w5 HN5.out (by omega) HB5.out.size)
      clear hb
      go_wp2_with fail
      refine W3.out.mono ?_
      rintro e w6 ⟨⟨n6, rfl⟩, hn6, hb⟩
      have HN6 := Lib.hid hn6
      have HB6 := Lib.hid (HB5.out.trans hb)
      clear hb hn6 W3 hIk h2 hlen
      go_wp2_with fail
      go_roundw
      case rel => exact ⟨k + 1, by omega, by go_num, by rw [HK.out]; exact HN6.out, HB6.out⟩
      case measure => simp [intOf]; omega
    have t1 : decide ((0 : Int) < (k : Int)) = true := by simp; omega
    have t2 : 0 < k := by omega
    have HK := Lib.hid (keyF_take (role := role) hlk)
    rw [if_neg hk0, ← List.append_assoc] at HK
    have W4 := Lib.hid (wbyte_l _ _ _ 44 44 (by rfl) wr HX.out.1 (by omega) HX.out.2.size)
    clear hk0
    go_wp2_with fail
    refine W4.out.mono ?_
    rintro e w4 ⟨rfl, hn4, hb⟩
    have HN4 := Lib.hid hn4
    have HB4 := Lib.hid (HX.out.2.trans hb)
    clear hb hn4 W4
    go_wp2_with fail
    refine (itoa_below w4 l[k] hIk (HT.out.below HB4.out)).mono ?_
    rintro e w5 ⟨rfl, hb⟩
    have HN5 := Lib.hid (isb_keep HN4.out hb)
    have HB5 := Lib.hid (HB4.out.trans (hb.mono HB4.out.size))
    have W3 := Lib.hid (wstr_l _ _ _ (Lib.itoa l[k]) w5 HN5.out (by simp; omega) HB5.out.size)
    clear hb
    go_wp2_with fail
    refine W3.out.mono ?_
    rintro e w6 ⟨⟨n6, rfl⟩, hn6, hb⟩
    have HN6 := Lib.hid hn6
    have HB6 := Lib.hid (HB5.out.trans hb)
    clear hb hn6 W3 hIk h2 hlen
    go_wp2_with fail
    go_roundw
    case rel => exact ⟨k + 1, by omega, by go_num, by rw [HK.out]; exact HN6.out, HB6.out⟩
    case measure => simp [intOf]; omega
end Go.Proofs.YtggffmbhpgioaaaDoor
