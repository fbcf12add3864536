/- The walks of the reference's decimal, Dec, Text. -/
import Derived.Test.YtjobncfjebkcdaaDoorBx
namespace Go.Proofs.YtjobncfjebkcdaaDoor
open Go Go.RowKit Go.Shelf
set_option linter.unusedSimpArgs false

def digS : ByteArray := ⟨#[48, 49, 50, 51, 52, 53, 54, 55, 56, 57]⟩
theorem dig_at (d : Nat) (h : d < 10) : digS.extract d (d + 1) = ⟨[UInt8.ofNat (48 + d)].toArray⟩ := by
  match d, h with
  | 0, _ => rfl
  | 1, _ => rfl
  | 2, _ => rfl
  | 3, _ => rfl
  | 4, _ => rfl
  | 5, _ => rfl
  | 6, _ => rfl
  | 7, _ => rfl
  | 8, _ => rfl
  | 9, _ => rfl
  | d + 10, h => omega
theorem str_app (a b : List UInt8) : (⟨a.toArray⟩ : ByteArray) ++ ⟨b.toArray⟩ = ⟨(a ++ b).toArray⟩ := by
  apply ByteArray.ext
  rw [ByteArray.data_append]
  simp
theorem decD_split {u : Nat} (h : 9 < u) (l : List UInt8) : Lib.decDigits u ++ l = Lib.decDigits (u / 10) ++ ([UInt8.ofNat (48 + u % 10)] ++ l) := by
  rw [Lib.decDigits, dif_neg (by omega), List.append_assoc]

set_option maxHeartbeats 4000000 in
set_option maxRecDepth 100000 in
theorem rdecimal_any (w : World) (u : Nat) (hu : u ≤ 18446744073709551615) : Calls Tryd.prog 56 #[.int .u64 u] w (OutD w (.string ⟨(Lib.decDigits u).toArray⟩)) := by
  have hlen : (Lib.decDigits u).length ≤ 20 := decD_len 19 (by omega)
  have HL := Lib.hid hlen
  clear hlen
  generalize hD : Lib.decDigits u = D at *
  have HD := Lib.hid hD
  clear hD
  go_enter Tryd.func56, Tryd.ntmps56
  go_wp2_with fail
  go_loopw [0, 4] (fun n s wr => ∃ (v : Nat) (l : List UInt8), v ≤ 18446744073709551615 ∧ n = .int .u64 v ∧ s = .string ⟨l.toArray⟩ ∧ Hid (Lib.decDigits v ++ l = D ∧ ∃ k, wr = w.drewN k)) (fun n _ _ => (intOf n).toNat)
  case atStart => exact ⟨u, [], hu, rfl, rfl, by rw [List.append_nil]; exact HD.out, 0, rfl⟩
  case round =>
    obtain ⟨v, l, hv, rfl, rfl, HI⟩ := hrel
    by_cases h9 : 9 < v
    focus
      have t1 : decide ((9 : Int) < (v : Int)) = true := by simp; omega
      have hsp := HI.out.1
      rw [decD_split h9] at hsp
      have HS := Lib.hid hsp
      have hl20 : l.length ≤ 19 := by
        have := HL.out
        rw [← hsp] at this
        simp at this
        omega
      clear hsp
      go_wp2_with fail
      go_roundw
      case rel =>
        refine ⟨v / 10, [UInt8.ofNat (48 + v % 10)] ++ l, by omega, by simp, ?_, HS.out, HI.out.2⟩
        rw [← str_app, ← dig_at _ (Nat.mod_lt _ (by omega))]
        rfl
      case measure => simp [intOf]; omega
    have t1 : decide ((9 : Int) < (v : Int)) = false := by simp; omega
    have hv10 : v < 10 := by omega
    have hl20 : l.length ≤ 20 := by
      have h := HL.out
      rw [← HI.out.1] at h
      simp at h
      omega
    have hfin : digS.extract v (v + 1) ++ ⟨l.toArray⟩ = (⟨D.toArray⟩ : ByteArray) := by
      rw [dig_at v hv10, str_app, ← HI.out.1, Lib.decDigits, dif_pos hv10]
    unfold digS at hfin
    go_wp2_with fail
    go_ret
    exact ⟨by rw [← hfin]; rfl, HI.out.2⟩
set_option maxHeartbeats 4000000 in
set_option maxRecDepth 100000 in
theorem rdec_any (w : World) (n : Int) (hn : I64 n) : Calls Tryd.prog 51 #[.int .i64 n] w (OutD w (.string ⟨(Lib.itoa n).toArray⟩)) := by
  have hlen : (Lib.decDigits n.natAbs).length ≤ 20 := decD_len 19 (by have := hn.1; have := hn.2; omega)
  have HC := Lib.hid (fun (w : World) => rdecimal_any w n.natAbs (by have := hn.1; have := hn.2; omega))
  have HN := Lib.hid hn
  clear hn
  by_cases h : n < 0
  · rw [itoa_ng h]
    have t1 : decide (n < 0) = true := by simpa using h
    have hadd : ∀ y : World, (Op.stringOp .add ⟨#[45]⟩ (⟨(Lib.decDigits n.natAbs).toArray⟩ : ByteArray)).run Tryd.prog y = .ok (.string ⟨(45 :: Lib.decDigits n.natAbs).toArray⟩) y := fun y => by
      have e : (⟨(45 :: Lib.decDigits n.natAbs).toArray⟩ : ByteArray) = ⟨#[45]⟩ ++ ⟨(Lib.decDigits n.natAbs).toArray⟩ := (str_app [45] _).symm
      rw [e]
      exact str_add (by show 1 + (Lib.decDigits n.natAbs).toArray.size ≤ _; rw [List.size_toArray]; unfold maxLen; omega)
    clear hlen
    generalize (⟨(45 :: Lib.decDigits n.natAbs).toArray⟩ : ByteArray) = sr at *
    generalize (⟨(Lib.decDigits n.natAbs).toArray⟩ : ByteArray) = sd at *
    go_enter Tryd.func51, Tryd.ntmps51
    go_wp2_with fail
    refine (rmag_any w n HN.out).mono ?_
    rintro e w1 ⟨rfl, rfl⟩
    go_wp2_with fail
    refine (HC.out w).mono ?_
    rintro e w1 ⟨rfl, hb⟩
    have HB := Lib.hid hb
    clear hb
    go_wp2_with fail
    go_ret
    exact ⟨rfl, HB.out⟩
  · rw [itoa_nn (by omega)]
    have t1 : decide (n < 0) = false := by simpa using h
    clear hlen
    go_enter Tryd.func51, Tryd.ntmps51
    go_wp2_with fail
    refine (rmag_any w n HN.out).mono ?_
    rintro e w1 ⟨rfl, rfl⟩
    go_wp2_with fail
    refine (HC.out w).mono ?_
    rintro e w1 ⟨rfl, hb⟩
    have HB := Lib.hid hb
    clear hb
    go_wp2_with fail
    go_ret
    exact ⟨rfl, HB.out⟩
set_option maxHeartbeats 4000000 in
set_option maxRecDepth 100000 in
theorem rtext_any (w : World) (f : Fr) (hf : FI f) : Calls Tryd.prog 39 #[frV f] w (OutB w (.string ⟨(textF f).toArray⟩)) := by
  obtain ⟨n, d⟩ := f
  obtain ⟨hn, hd⟩ := hf
  have HX := Lib.hid (show Bxs w (w.alloc (.cells #[.int .i64 n, .int .i64 d] 23)) _ from Bxs.one w ⟨n, d⟩)
  have hln := Lib.itoa_length_le n hn.1 hn.2
  have hld := Lib.itoa_length_le d hd.1 hd.2
  have CN := Lib.hid (fun w => rdec_any w n hn)
  have CD := Lib.hid (fun w => rdec_any w d hd)
  clear hn hd
  unfold frV
  by_cases h1 : d = 1
  focus
    subst h1
    rw [show textF ⟨n, 1⟩ = Lib.itoa n from rfl]
    clear hln hld
    go_enter Tryd.func39, Tryd.ntmps39
    go_wp2_with fail
    generalize w.alloc (.cells #[.int .i64 n, .int .i64 1] 23) = w0 at *
    refine (CN.out w0).mono ?_
    rintro e w1 ⟨rfl, k, rfl⟩
    go_wp2_with fail
    go_ret
    exact ⟨rfl, below_drewN HX.out.below k⟩
  have hz : (d == 1) = false := beq_eq_false_iff_ne.2 h1
  rw [show textF ⟨n, d⟩ = Lib.itoa n ++ [47] ++ Lib.itoa d from by unfold textF; rw [if_neg h1]]
  have hcat := str_cat (Lib.itoa n) (Lib.itoa d)
  generalize (⟨(Lib.itoa n ++ [47] ++ Lib.itoa d).toArray⟩ : ByteArray) = tS at *
  have HS := Lib.hid hcat
  clear hcat
  have h2 : (⟨(Lib.itoa n).toArray⟩ : ByteArray).size ≤ 21 := hln
  have h3 : (⟨(Lib.itoa d).toArray⟩ : ByteArray).size ≤ 21 := hld
  clear hln hld h1
  generalize (⟨(Lib.itoa n).toArray⟩ : ByteArray) = sn at *
  generalize (⟨(Lib.itoa d).toArray⟩ : ByteArray) = sd at *
  have hadd1 : ∀ y : World, (Op.stringOp .add sn ⟨#[47]⟩).run Tryd.prog y = .ok (.string (sn ++ ⟨#[47]⟩)) y := fun y => str_add (by show sn.size + 1 ≤ _; unfold maxLen; omega)
  have hadd2 : ∀ y : World, (Op.stringOp .add (sn ++ ⟨#[47]⟩) sd).run Tryd.prog y = .ok (.string tS) y := fun y => by rw [← HS.out]; exact str_add (by rw [ByteArray.size_append, show (⟨#[47]⟩ : ByteArray).size = 1 from rfl]; unfold maxLen; omega)
  go_enter Tryd.func39, Tryd.ntmps39
  go_wp2_with fail
  generalize w.alloc (.cells #[.int .i64 n, .int .i64 d] 23) = w0 at *
  have hc := HX.out.cells
  simp only [BCells] at hc
  have hc1 := hc.1
  have hc2 := hc.2.1
  clear hc
  go_quiet (first | (go_at_call 51; first | (with_reducible exact Calls.quiet_of (CN.out _)) | (with_reducible exact Calls.quiet_of (CD.out _))))
  clear hadd1 hadd2 hc1 hc2
  go_wp2_with fail
  go_ret
  exact ⟨rfl, below_drewN HX.out.below nq⟩
end Go.Proofs.YtjobncfjebkcdaaDoor
