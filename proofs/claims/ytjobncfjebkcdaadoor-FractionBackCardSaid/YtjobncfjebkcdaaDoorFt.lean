/- The table that strconv.Itoa reads; fraction.Text. -/
import Derived.Test.YtjobncfjebkcdaaDoorFd
import Derived.Test.YtjobncfjebkcdaaDoorFx
import Derived.Test.YtjobncfjebkcdaaDoorRows
import Derived.Lib.ItoaLen
import Derived.Deep.RegionHeld3
namespace Go.Proofs.YtjobncfjebkcdaaDoor
open Go Go.RowKit Go.Shelf
set_option linter.unusedSimpArgs false

def nTab : String := match Rows.fractionMakesRow.named with | x :: _ => x | [] => ""
/-- the world holds the table of powers of ten -/
def Tb (w : World) : Prop := Lib.TabIs Tryd.prog w nTab .u64 Lib.pow10Tab
theorem gTab : Tryd.prog.globalNamed nTab = some 3 := by kernel_rfl
theorem Tb.lt {w : World} (h : Tb w) : 3 < w.heap.size := by
  unfold Tb Lib.TabIs World.var? at h
  rw [gTab] at h
  rcases Nat.lt_or_ge 3 w.heap.size with hl | hl
  · exact hl
  · rw [Option.bind_some, Array.getElem?_eq_none hl] at h; simp at h
theorem Tb.below {w w' : World} (h : Tb w) (hb : Below w.heap.size w w') : Tb w' := by
  have hl := h.lt
  unfold Tb Lib.TabIs World.var? at *
  rw [gTab] at *
  rw [Option.bind_some] at *
  rw [hb.block _ hl]
  exact h
theorem below_grow (w : World) (k : Nat) (os : Array Obj) : Below w.heap.size w (Sort.grow (w.drewN k) os) := by
  refine ⟨rfl, rfl, rfl, ?_, fun i hi => ?_⟩
  · simp [Sort.grow]
  · simp only [Sort.grow, World.heap_drewN]
    exact Array.getElem?_append_left hi
/-- strconv.Itoa off the shelf -/
theorem itoa_any (n : Int) (h0 : -9223372036854775808 ≤ n) (h1 : n ≤ 9223372036854775807) (w : World) (htab : Lib.TabIs Tryd.prog w nTab .u64 Lib.pow10Tab) :
    Calls Tryd.prog 50 #[.int .i64 n] w fun e w' => e = .returned (.string ⟨(Lib.itoa n).toArray⟩) ∧ ∃ k os, w' = Sort.grow (w.drewN k) os := Any.strconv_Itoa laysM171 n h0 h1 w htab
theorem itoa_below (w : World) (n : Int) (hn : I64 n) (ht : Tb w) : Calls Tryd.prog 50 #[.int .i64 n] w (OutB w (.string ⟨(Lib.itoa n).toArray⟩)) :=
  (itoa_any n hn.1 hn.2 w ht).mono fun e w' h => ⟨h.1, by obtain ⟨k, os, hk⟩ := h.2; rw [hk]; exact below_grow _ _ _⟩

def textF (f : Fr) : List UInt8 := if f.den = 1 then Lib.itoa f.num else Lib.itoa f.num ++ [47] ++ Lib.itoa f.den
theorem str_cat (a b : List UInt8) : (⟨a.toArray⟩ : ByteArray) ++ ⟨#[47]⟩ ++ ⟨b.toArray⟩ = ⟨(a ++ [47] ++ b).toArray⟩ := by
  apply ByteArray.ext
  rw [ByteArray.data_append, ByteArray.data_append]
  simp
theorem str_add {P : Program} {w : World} {a b : ByteArray} (h : a.size + b.size ≤ maxLen) : (Op.stringOp .add a b).run P w = .ok (.string (a ++ b)) w := by
  unfold maxLen at h
  simp [Op.stringOp]
  omega
theorem keep_two {w0 x : World} {q : Nat} {a b : Value} (h : w0.cell? ⟨q, 0, none⟩ = some a ∧ w0.cell? ⟨q, 1, none⟩ = some b ∧ q < w0.heap.size) (hb : Below w0.heap.size w0 x) :
    x.cell? ⟨q, 0, none⟩ = some a ∧ x.cell? ⟨q, 1, none⟩ = some b ∧ Hid (Below w0.heap.size w0 x) :=
  ⟨(hb.cell (p := ⟨q, 0, none⟩) h.2.2).trans h.1, (hb.cell (p := ⟨q, 1, none⟩) h.2.2).trans h.2.1, hb⟩
theorem trans_any {w4 x y : World} (h : Below w4.heap.size w4 x) (hb : Below x.heap.size x y) : Below w4.heap.size w4 y := h.trans (hb.mono h.size)

set_option maxHeartbeats 4000000 in
set_option maxRecDepth 100000 in
theorem text_any (w : World) (f : Fr) (hf : FI f) (ht : Tb w) : Calls Tryd.prog 38 #[frV f] w (OutB w (.string ⟨(textF f).toArray⟩)) := by
  obtain ⟨n, d⟩ := f
  obtain ⟨hn, hd⟩ := hf
  have HB0 := Lib.hid ((Below.refl w.heap.size w).alloc (Nat.le_refl _) (.cells #[.int .i64 n, .int .i64 d] 23))
  have HRES0 := Lib.hid (heap_alloc_new w (.cells #[.int .i64 n, .int .i64 d] 23))
  have HT := Lib.hid (ht.below HB0.out)
  have HN := Lib.hid hn
  have HD := Lib.hid hd
  clear hn hd ht
  unfold frV
  by_cases h1 : d = 1
  focus
    subst h1
    rw [show textF ⟨n, 1⟩ = Lib.itoa n from rfl]
    go_enter Tryd.func38, Tryd.ntmps38
    go_wp2_with fail
    generalize w.alloc (.cells #[.int .i64 n, .int .i64 1] 23) = w0 at *
    refine (itoa_below w0 n HN.out HT.out).mono ?_
    rintro e w1 ⟨rfl, hb⟩
    have HB1 := Lib.hid (HB0.out.trans (hb.mono HB0.out.size))
    clear hb
    go_wp2_with fail
    go_ret
    exact ⟨rfl, HB1.out⟩
  have hz : (d == 1) = false := beq_eq_false_iff_ne.2 h1
  rw [show textF ⟨n, d⟩ = Lib.itoa n ++ [47] ++ Lib.itoa d from by unfold textF; rw [if_neg h1]]
  have hcat := str_cat (Lib.itoa n) (Lib.itoa d)
  generalize (⟨(Lib.itoa n ++ [47] ++ Lib.itoa d).toArray⟩ : ByteArray) = tS at *
  have HS := Lib.hid hcat
  clear hcat
  go_enter Tryd.func38, Tryd.ntmps38
  go_wp2_with fail
  generalize w.alloc (.cells #[.int .i64 n, .int .i64 d] 23) = w0 at *
  obtain ⟨v0, v1, g0, g1⟩ := cells_two HRES0.out
  have HC := Lib.hid (show _ ∧ _ ∧ _ from ⟨v0, v1, heap_lt HRES0.out⟩)
  have HI := Lib.hid (Below.refl w0.heap.size w0)
  have HCN := Lib.hid (fun (y : World) (hy : Below w0.heap.size w0 y) => itoa_below y n HN.out (HT.out.below hy))
  have HCD := Lib.hid (fun (y : World) (hy : Below w0.heap.size w0 y) => itoa_below y d HD.out (HT.out.below hy))
  have hln := Lib.itoa_length_le n HN.out.1 HN.out.2
  have hld := Lib.itoa_length_le d HD.out.1 HD.out.2
  clear v0 v1 g0 g1 h1
  have h2 : (⟨(Lib.itoa n).toArray⟩ : ByteArray).size ≤ 21 := hln
  have h3 : (⟨(Lib.itoa d).toArray⟩ : ByteArray).size ≤ 21 := hld
  clear hln hld
  generalize (⟨(Lib.itoa n).toArray⟩ : ByteArray) = sn at *
  generalize (⟨(Lib.itoa d).toArray⟩ : ByteArray) = sd at *
  have hadd1 : ∀ y : World, (Op.stringOp .add sn ⟨#[47]⟩).run Tryd.prog y = .ok (.string (sn ++ ⟨#[47]⟩)) y := fun y => str_add (by show sn.size + 1 ≤ _; unfold maxLen; omega)
  have hadd2 : ∀ y : World, (Op.stringOp .add (sn ++ ⟨#[47]⟩) sd).run Tryd.prog y = .ok (.string tS) y := fun y => by rw [← HS.out]; exact str_add (by rw [ByteArray.size_append, show (⟨#[47]⟩ : ByteArray).size = 1 from rfl]; unfold maxLen; omega)
  go_region_held3 (fun y => y.cell? ⟨w.heap.size, 0, none⟩ = some (.int .i64 n) ∧ y.cell? ⟨w.heap.size, 1, none⟩ = some (.int .i64 d) ∧ Hid (Below w0.heap.size w0 y)) (first | (exact keep_two HC.out (Below.drew HI.out)) | (exact keep_two HC.out (Below.drew (Hid.out (And.right (And.right ‹_ ∧ _ ∧ Hid _›))))) | (exact keep_two HC.out (trans_any (Hid.out (And.right (And.right ‹_ ∧ _ ∧ Hid _›))) hb9))) (first | (go_at_call 50; refine (HCN.out _ ?_).mono ?_; (exact (Hid.out (And.right (And.right ‹_ ∧ _ ∧ Hid _›)))); rintro e9 w9 ⟨rfl, hb9⟩) | (go_at_call 50; refine (HCD.out _ ?_).mono ?_; (exact (Hid.out (And.right (And.right ‹_ ∧ _ ∧ Hid _›)))); rintro e9 w9 ⟨rfl, hb9⟩))
  have HF := Lib.hid (Hid.out (And.right (And.right ‹_ ∧ _ ∧ Hid (Below w0.heap.size w0 w9)›)))
  clear hadd1 hadd2
  go_wp2_with fail
  go_ret
  exact ⟨rfl, HB0.out.trans (HF.out.mono HB0.out.size)⟩
end Go.Proofs.YtjobncfjebkcdaaDoor
