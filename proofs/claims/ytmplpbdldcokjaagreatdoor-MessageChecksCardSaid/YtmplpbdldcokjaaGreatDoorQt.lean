/- Messages that came in; short. -/
import Derived.Test.YtmplpbdldcokjaaGreatDoorX8
import Derived.Test.YtmplpbdldcokjaaGreatDoorHa
import Derived.Test.YtmplpbdldcokjaaGreatDoorXp
namespace Go.Proofs.YtmplpbdldcokjaaGreatDoor
open Go Go.ChangeShapes Go.WideShapes Go.ChangeAt Go.RowKit Go.Joins Go.Deep Go.Shelf
set_option linter.unusedSimpArgs false
set_option linter.unusedVariables false
set_option maxRecDepth 100000

/-- what is known of a message that came in -/
structure MsO (w : World) (k : Int) (mat nm : List UInt8) (A : Option Addr) (cp : Nat) (l : List Tm) (A1 : Option Addr) (l1 : List Tm) (A2 : Option Addr) (l2 : List Tm) (txt : List UInt8) : Prop where
  mat : mat.length ≤ 9223372036854775807
  txt : txt.length ≤ 9223372036854775807
  role : TmV w (· < w.heap.size) [.string (bs nm), .slice A l.length cp] (.mk nm l)
  rb : TmB (.mk nm l)
  ins : MsIn w (· < w.heap.size) A1 l1 A2 l2
theorem MsO.nm {w : World} {k : Int} {mat nm : List UInt8} {A : Option Addr} {cp : Nat} {l : List Tm} {A1 : Option Addr} {l1 : List Tm} {A2 : Option Addr} {l2 : List Tm} {txt : List UInt8} (h : MsO w k mat nm A cp l A1 l1 A2 l2 txt) : nm.length ≤ 9223372036854775807 := by
  have := h.rb
  cases this
  assumption
section
variable {H : Type} {enc : TypeId × Value → H} {P : Program} {w : World}
theorem trod_struct8 {t : TypeId} {f0 f1 f2 f3 f4 f5 f6 f7 : Field} {fuel : Nat} {cs : List Value} {x : DataW H × List MemPlace} {base : Nat} {spare : Nat → Bool} {held : Bool} (ht : P.underlying t = some (.struct #[f0, f1, f2, f3, f4, f5, f6, f7])) (h : DataW.trod enc P w base spare held fuel t cs = some x) :
    ∃ y0 y1 y2 y3 y4 y5 y6 y7 n, fuel = n + 1 ∧ cs.length = P.cellsOf t ∧ DataW.trod enc P w base spare held n f0.type ((cs.drop f0.offset).take (P.cellsOf f0.type)) = some y0 ∧ DataW.trod enc P w base spare held n f1.type ((cs.drop f1.offset).take (P.cellsOf f1.type)) = some y1 ∧
      DataW.trod enc P w base spare held n f2.type ((cs.drop f2.offset).take (P.cellsOf f2.type)) = some y2 ∧ DataW.trod enc P w base spare held n f3.type ((cs.drop f3.offset).take (P.cellsOf f3.type)) = some y3 ∧ DataW.trod enc P w base spare held n f4.type ((cs.drop f4.offset).take (P.cellsOf f4.type)) = some y4 ∧
      DataW.trod enc P w base spare held n f5.type ((cs.drop f5.offset).take (P.cellsOf f5.type)) = some y5 ∧ DataW.trod enc P w base spare held n f6.type ((cs.drop f6.offset).take (P.cellsOf f6.type)) = some y6 ∧ DataW.trod enc P w base spare held n f7.type ((cs.drop f7.offset).take (P.cellsOf f7.type)) = some y7 := by
  obtain ⟨xs, n, hn, rfl, hl, hlen, hf⟩ := DataW.trod_struct ht h
  match xs, hlen with
  | [y0, y1, y2, y3, y4, y5, y6, y7], _ => exact ⟨y0, y1, y2, y3, y4, y5, y6, y7, n, hn, hl, by simpa using hf 0 f0 rfl, by simpa using hf 1 f1 rfl, by simpa using hf 2 f2 rfl, by simpa using hf 3 f3 rfl, by simpa using hf 4 f4 rfl, by simpa using hf 5 f5 rfl, by simpa using hf 6 f6 rfl, by simpa using hf 7 f7 rfl⟩
end
section
variable {H : Type} {enc : TypeId × Value → H} {w : World}
theorem cMsgO : Tryz.prog.cellsOf 27 = 9 := by kernel_rfl
theorem cIntO : Tryz.prog.cellsOf 3 = 1 := by kernel_rfl
theorem open_msg {r : Reach} {b0 : Nat} {v : Value} {d : DataW H} {p : List MemPlace} (hv : Value.okWide Tryz.prog w r b0 27 v) (h : DataW.Trod enc Tryz.prog w 0 (fun _ => true) true 27 v d p) :
    ∃ (k : Int) (mat nm : List UInt8) (A : Option Addr) (cp : Nat) (l : List Tm) (sc pc : Int) (A1 : Option Addr) (c1 : Nat) (l1 : List Tm) (A2 : Option Addr) (c2 : Nat) (l2 : List Tm) (txt : List UInt8),
      v = msgV k (bs mat) (bs nm) A l.length cp sc pc A1 l1.length c1 A2 l2.length c2 (bs txt) ∧ MsO w k mat nm A cp l A1 l1 A2 l2 txt := by
  obtain ⟨fuel, hf⟩ := h
  obtain ⟨cs, rfl, hsz⟩ := okWide_struct Tryz.underlying27 hv
  obtain ⟨y0, y1, y2, y3, y4, y5, y6, y7, n, rfl, hl, h0, h1, h2, h3, h4, h5, h6, h7⟩ := trod_struct8 Tryz.underlying27 hf
  obtain ⟨cl⟩ := cs
  rw [cMsgO] at hl
  simp only [Value.cells] at hl h0 h1 h2 h3 h4 h5 h6 h7
  rw [cIntO] at h0 h3 h4
  rw [cStrO] at h1 h7
  rw [cTermO] at h2
  rw [cTermsO] at h5 h6
  match cl, hl with
  | [c0, c1, c2, c3, c4, c5, c6, c7, c8], _ =>
    have hn : ∃ m, n = m + 1 := by
      cases n with
      | zero => simp [DataW.trod] at h1
      | succ m => exact ⟨m, rfl⟩
    obtain ⟨m, rfl⟩ := hn
    obtain ⟨k, e0, _, _⟩ := DataW.trod_int Tryz.underlying3 h0
    obtain ⟨sm, e1, _, hs1⟩ := DataW.trod_string Tryz.underlying9 h1
    obtain ⟨t, ⟨ht, hb⟩, _⟩ := tm_cells _ _ _ h2
    obtain ⟨sc, e3, _, _⟩ := DataW.trod_int Tryz.underlying3 h3
    obtain ⟨pc, e4, _, _⟩ := DataW.trod_int Tryz.underlying3 h4
    obtain ⟨A1, cp1, l1, e5, hl1, ha1, hb1, _⟩ := terms_of (fun x y h => tm_cells m x y h) h5
    obtain ⟨A2, cp2, l2, e6, hl2, ha2, hb2, _⟩ := terms_of (fun x y h => tm_cells m x y h) h6
    obtain ⟨st, e7, _, hs7⟩ := DataW.trod_string Tryz.underlying9 h7
    obtain ⟨nm, A, cp, l, e2, rfl⟩ := ht.form
    simp at e0 e1 e2 e3 e4 e5 e6 e7
    obtain ⟨e2, e2'⟩ := e2
    subst e0 e1 e2 e2' e3 e4 e5 e6 e7
    refine ⟨k, sm.data.toList, nm, A, cp, l, sc, pc, A1, cp1, l1, A2, cp2, l2, st.data.toList, ?_, ⟨by have := maxLen_le hs1; simpa using this, by have := maxLen_le hs7; simpa using this, ht, hb, ⟨hl1, hl2, fun _ h => h, ha1, hb1, ha2, hb2⟩⟩⟩
    rw [bs_toList, bs_toList]
end

/-- an answer that says, if it is yes, that a list is short -/
def OutQL (w : World) (p : Prop) (e : Ending) (w' : World) : Prop := ∃ b : Bool, e = .returned (.bool b) ∧ Below w.heap.size w w' ∧ (b = true → p)
set_option maxHeartbeats 8000000 in
theorem smallterms_len (m : Nat) (hm : m ≤ 1000) (w : World) (P : Nat → Prop) (A : Option Addr) (cp : Nat) (l : List Tm) (hl : l.length ≤ 9223372036854775807) (ha : SlV TmV 2 w P A l) (hb : ∀ t ∈ l, TmB t) :
    Calls Tryz.prog 48 #[.slice A l.length cp, .int .i64 m] w (OutQL w (l.length ≤ m)) := by
  by_cases hml : m < l.length
  · have e1 : decide ((m : Int) < (l.length : Int)) = true := decide_eq_true (by omega)
    clear ha hb
    go_enter Tryz.func48, Tryz.ntmps48
    go_wp2_with fail
    go_ret
    exact ⟨false, rfl, Below.refl _ _, fun h => by cases h⟩
  · refine (smallterms_any m hm w P A cp l (by omega) ha hb).mono ?_
    rintro e w1 ⟨b, rfl, hb⟩
    exact ⟨b, rfl, hb, fun _ => by omega⟩
set_option maxHeartbeats 8000000 in
theorem short_any (w : World) (k : Int) (mat nm : List UInt8) (A : Option Addr) (cp : Nat) (l : List Tm) (sc pc : Int) (A1 : Option Addr) (c1 : Nat) (l1 : List Tm) (A2 : Option Addr) (c2 : Nat) (l2 : List Tm) (txt : List UInt8) (h : MsO w k mat nm A cp l A1 l1 A2 l2 txt) :
    Calls Tryz.prog 16 #[msgV k (bs mat) (bs nm) A l.length cp sc pc A1 l1.length c1 A2 l2.length c2 (bs txt)] w (OutQL w (txt.length ≤ 17000 ∧ l1.length ≤ 20 ∧ l2.length ≤ 20)) := by
  have HB := Lib.hid (one_box w (.cells #[.int .i64 k, .string (bs mat), .string (bs nm), .slice A l.length cp, .int .i64 sc, .int .i64 pc, .slice A1 l1.length c1, .slice A2 l2.length c2, .string (bs txt)] 27))
  have CS := Lib.hid (fun (y : World) (hy : Below w.heap.size w y) => small_any 30 (by decide) y (· < w.heap.size) nm A cp l (h.role.keep (fun b hp hb => ⟨hp, hy.block b hb⟩) hy.size) h.rb)
  have CT1 := Lib.hid (fun (y : World) (hy : Below w.heap.size w y) => smallterms_len 20 (by decide) y _ A1 c1 l1 h.ins.n1 (h.ins.keep hy).a1 h.ins.b1)
  have CT2 := Lib.hid (fun (y : World) (hy : Below w.heap.size w y) => smallterms_len 20 (by decide) y _ A2 c2 l2 h.ins.n2 (h.ins.keep hy).a2 h.ins.b2)
  have hmz : (bs mat).size = mat.length := size_bs mat
  have htz : (bs txt).size = txt.length := size_bs txt
  generalize bs mat = smat at *
  generalize bs txt = stxt at *
  generalize bs nm = snm at *
  clear h
  by_cases h1 : smat.size ≤ 100
  rotate_left
  focus
    have e1 : decide ((smat.size : Int) ≤ 100) = false := decide_eq_false (by omega)
    go_enter Tryz.func16, Tryz.ntmps16
    go_wp2_with fail
    go_ret
    exact ⟨false, rfl, HB.out.1, fun h => by cases h⟩
  have e1 : decide ((smat.size : Int) ≤ 100) = true := decide_eq_true (by omega)
  by_cases h2 : stxt.size ≤ 17000
  rotate_left
  focus
    have e2 : decide ((stxt.size : Int) ≤ 17000) = false := decide_eq_false (by omega)
    go_enter Tryz.func16, Tryz.ntmps16
    go_wp2_with fail
    go_ret
    exact ⟨false, rfl, HB.out.1, fun h => by cases h⟩
  have e2 : decide ((stxt.size : Int) ≤ 17000) = true := decide_eq_true (by omega)
  have HTX : Hid (txt.length ≤ 17000) := by unfold Hid; omega
  go_enter Tryz.func16, Tryz.ntmps16
  go_wp2_with fail
  generalize w.alloc (.cells #[.int .i64 k, .string smat, .string snm, .slice A l.length cp, .int .i64 sc, .int .i64 pc, .slice A1 l1.length c1, .slice A2 l2.length c2, .string stxt] 27) = w0 at *
  refine (CS.out _ HB.out.1).mono ?_
  rintro e w1 ⟨b, rfl, hb⟩
  have HX1 := Lib.hid ((hb.block _ (heap_lt HB.out.2)).trans HB.out.2)
  have HB1 := Lib.hid (HB.out.1.trans (hb.mono HB.out.1.size))
  clear hb
  cases b
  focus
    go_wp2_with fail
    go_ret
    exact ⟨false, rfl, HB1.out, fun h => by cases h⟩
  have m6 := cell_blk HX1.out 6
  go_wp2_with fail
  clear m6
  refine (CT1.out _ HB1.out).mono ?_
  rintro e w2 ⟨b, rfl, hb, hl1⟩
  have HX2 := Lib.hid ((hb.block _ (heap_lt HX1.out)).trans HX1.out)
  have HB2 := Lib.hid (HB1.out.trans (hb.mono HB1.out.size))
  clear hb
  cases b
  focus
    go_wp2_with fail
    go_ret
    exact ⟨false, rfl, HB2.out, fun h => by cases h⟩
  have HL1 := Lib.hid (hl1 rfl)
  clear hl1
  have m7 := cell_blk HX2.out 7
  go_wp2_with fail
  clear m7
  refine (CT2.out _ HB2.out).mono ?_
  rintro e w3 ⟨b, rfl, hb, hl2⟩
  have HB3 := Lib.hid (HB2.out.trans (hb.mono HB2.out.size))
  clear hb
  go_wp2_with fail
  go_ret
  exact ⟨b, rfl, HB3.out, fun h => ⟨HTX.out, HL1.out, hl2 h⟩⟩
end Go.Proofs.YtmplpbdldcokjaaGreatDoor
