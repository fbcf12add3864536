/- The walks of Key, of the program and of the reference. -/
import Derived.Test.YtggffmbhpgioaaaDoorZb
namespace Go.Proofs.YtggffmbhpgioaaaDoor
open Go Go.RowKit Go.Shelf
set_option linter.unusedSimpArgs false

/-- a slice of ints in memory -/
def IntS (w : World) (A : Option Addr) (l : List Int) : Prop :=
  0 < l.length → ∃ b o, A = some ⟨b, o, none⟩ ∧ b < w.heap.size ∧ ∀ (i : Nat) (n : Int), l[i]? = some n → w.cell? ⟨b, o + i, none⟩ = some (.int .i64 n)
theorem IntS.keep {w w' : World} {A : Option Addr} {l : List Int} (h : IntS w A l) (hb : Below w.heap.size w w') : IntS w' A l := by
  intro hn
  obtain ⟨b, o, hA, hlt, hc⟩ := h hn
  exact ⟨b, o, hA, Nat.lt_of_lt_of_le hlt hb.size, fun i t ht => (hb.cell (p := ⟨b, _, none⟩) hlt).trans (hc i t ht)⟩
theorem IntS.at {w : World} {A : Option Addr} {l : List Int} (h : IntS w A l) (k : Nat) (hk : k < l.length) :
    ∃ b o, A = some ⟨b, o, none⟩ ∧ b < w.heap.size ∧ w.cell? ⟨b, o + k, none⟩ = some (.int .i64 l[k]) := by
  obtain ⟨b, o, hA, hlt, hc⟩ := h (by omega)
  exact ⟨b, o, hA, hlt, hc k _ (List.getElem?_eq_getElem hk)⟩
theorem str_add {P : Program} {w : World} {a b : ByteArray} (h : a.size + b.size ≤ maxLen) : (Op.stringOp .add a b).run P w = .ok (.string (a ++ b)) w := by
  unfold maxLen at h
  simp [Op.stringOp]
  omega
theorem str_app (a b : List UInt8) : (⟨a.toArray⟩ : ByteArray) ++ ⟨b.toArray⟩ = ⟨(a ++ b).toArray⟩ := by
  apply ByteArray.ext
  rw [ByteArray.data_append]
  simp
theorem str_add_l {P : Program} {w : World} (a b : List UInt8) (h : a.length + b.length ≤ 1000000000) : (Op.stringOp .add ⟨a.toArray⟩ ⟨b.toArray⟩).run P w = .ok (.string ⟨(a ++ b).toArray⟩) w := by
  rw [← str_app]
  exact str_add (by show a.toArray.size + b.toArray.size ≤ _; rw [List.size_toArray, List.size_toArray]; unfold maxLen; omega)

set_option maxHeartbeats 4000000 in
set_option maxRecDepth 100000 in
theorem rkey_any (w : World) (A : Option Addr) (ca : Nat) (l : List Int) (role : Int) (hl : l.length ≤ 1000000) (hr : I64 role) (hi : ∀ n ∈ l, I64 n) (ha : IntS w A l) (ht : Tb w) :
    Calls Tryd.prog 12 #[.slice A l.length ca, .int .i64 role] w (OutB w (.string ⟨(keyF l role).toArray⟩)) := by
  have HA := Lib.hid ha
  have HT := Lib.hid ht
  have HI := Lib.hid hi
  have HR := Lib.hid hr
  have hr2 := Lib.itoa_length_le role hr.1 hr.2
  have hadd0 : ∀ y : World, (Op.stringOp .add ⟨(Lib.itoa role).toArray⟩ ⟨#[58]⟩).run Tryd.prog y = .ok (.string ⟨(keyF (l.take 0) role).toArray⟩) y := fun y => by
    have := str_add_l (P := Tryd.prog) (w := y) (Lib.itoa role) [58] (by simp; omega)
    rw [List.take_zero]
    unfold keyF
    rw [keyG, List.append_nil]
    exact this
  clear ha ht hi hr hr2
  go_enter Tryd.func12, Tryd.ntmps12
  go_wp2_with fail
  refine (itoa_below w role HR.out HT.out).mono ?_
  rintro e w1 ⟨rfl, hb⟩
  have HB1 := Lib.hid hb
  clear hb
  go_wp2_with fail
  clear hadd0
  generalize hs0 : (⟨(keyF (l.take 0) role).toArray⟩ : ByteArray) = s0 at *
  have HS0 := Lib.hid hs0
  clear hs0
  go_loopw [5, 6] (fun s i wr => ∃ k : Nat, k ≤ l.length ∧ i = .int .i64 k ∧ s = .string ⟨(keyF (l.take k) role).toArray⟩ ∧ Hid (Below w.heap.size w wr)) (fun _ i _ => l.length - (intOf i).toNat)
  case atStart => exact ⟨0, Nat.zero_le _, rfl, by have h := HS0.out; first | exact congrArg Value.string h | exact (congrArg Value.string h).symm | (simp [h]; done) | (simp at h ⊢; done) | (simp at h ⊢; exact h.symm) | (simp at h ⊢; exact h), HB1.out⟩
  case round =>
    obtain ⟨k, hk, rfl, rfl, HB⟩ := hrel
    by_cases hlk : k < l.length
    rotate_left
    · obtain rfl : k = l.length := by omega
      rw [List.take_length]
      go_wp2_with fail
      go_ret
      exact ⟨rfl, HB.out⟩
    obtain ⟨b, o, rfl, hbl, hc⟩ := (HA.out.keep HB.out).at k hlk
    have hIk := HI.out l[k] (List.getElem_mem hlk)
    have CI := Lib.hid (fun (w : World) (ht : Tb w) => itoa_below w l[k] hIk ht)
    have h2 := Lib.itoa_length_le l[k] hIk.1 hIk.2
    have hlen : (keyF (l.take k) role).length ≤ 23000000 := by
      have := keyF_len (l := l.take k) HR.out (fun n hn => HI.out n (List.mem_of_mem_take hn))
      simp only [List.length_take] at this
      omega
    have HTR := Lib.hid (HT.out.below HB.out)
    clear hIk
    by_cases hk0 : k = 0
    focus
      have t1 : decide ((0 : Int) < (k : Int)) = false := by simp; omega
      have t2 : ¬ 0 < k := by omega
      have hadd : ∀ y : World, (Op.stringOp .add ⟨(keyF (l.take k) role).toArray⟩ ⟨(Lib.itoa l[k]).toArray⟩).run Tryd.prog y = .ok (.string ⟨(keyF (l.take (k + 1)) role).toArray⟩) y := fun y => by
        have := str_add_l (P := Tryd.prog) (w := y) (keyF (l.take k) role) (Lib.itoa l[k]) (by omega)
        rw [keyF_take hlk, if_pos hk0, List.nil_append]
        exact this
      clear hk0 hlen h2
      generalize hq : (⟨(keyF (l.take (k + 1)) role).toArray⟩ : ByteArray) = s2 at *
      have HQ := Lib.hid hq
      clear hq
      generalize (⟨(keyF (l.take k) role).toArray⟩ : ByteArray) = sk at *
      go_wp2_with fail
      refine (CI.out _ HTR.out).mono ?_
      rintro e w5 ⟨rfl, hb⟩
      have HB5 := Lib.hid (HB.out.trans (hb.mono HB.out.size))
      clear hb
      go_wp2_with fail
      go_roundw
      case rel => exact ⟨k + 1, by omega, by go_num, by rw [HQ.out], HB5.out⟩
      case measure => simp [intOf]; omega
    have t1 : decide ((0 : Int) < (k : Int)) = true := by simp; omega
    have t2 : 0 < k := by omega
    have hadd1 : ∀ y : World, (Op.stringOp .add ⟨(keyF (l.take k) role).toArray⟩ ⟨#[44]⟩).run Tryd.prog y = .ok (.string ⟨(keyF (l.take k) role ++ [44]).toArray⟩) y := fun y => str_add_l (keyF (l.take k) role) [44] (by simp; omega)
    have hadd : ∀ y : World, (Op.stringOp .add ⟨(keyF (l.take k) role ++ [44]).toArray⟩ ⟨(Lib.itoa l[k]).toArray⟩).run Tryd.prog y = .ok (.string ⟨(keyF (l.take (k + 1)) role).toArray⟩) y := fun y => by
      have := str_add_l (P := Tryd.prog) (w := y) (keyF (l.take k) role ++ [44]) (Lib.itoa l[k]) (by simp; omega)
      rw [keyF_take hlk, if_neg hk0, ← List.append_assoc]
      exact this
    clear hk0 hlen h2
    generalize hq : (⟨(keyF (l.take (k + 1)) role).toArray⟩ : ByteArray) = s2 at *
    have HQ := Lib.hid hq
    clear hq
    generalize (⟨(keyF (l.take k) role ++ [44]).toArray⟩ : ByteArray) = s1 at *
    generalize (⟨(keyF (l.take k) role).toArray⟩ : ByteArray) = sk at *
    go_wp2_with fail
    refine (CI.out _ HTR.out).mono ?_
    rintro e w5 ⟨rfl, hb⟩
    have HB5 := Lib.hid (HB.out.trans (hb.mono HB.out.size))
    clear hb
    go_wp2_with fail
    go_roundw
    case rel => exact ⟨k + 1, by omega, by go_num, by rw [HQ.out], HB5.out⟩
    case measure => simp [intOf]; omega
end Go.Proofs.YtggffmbhpgioaaaDoor
