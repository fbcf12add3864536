/- What the cards of this seat share: what the listed variables hold when the call begins. -/
import Derived.Test.YtmplpbdldcokjaaGreatDoorCards
import Derived.Test.YtmplpbdldcokjaaGreatDoorTie
import Derived.Test.YtmplpbdldcokjaaGreatDoorX8
import Derived.Test.YtmplpbdldcokjaaGreatDoorOa
import Derived.WalkKit
import Derived.ProofKit
import Derived.OpenShut
import Derived.LaidMore
import Derived.Lib.LaidU8
import Derived.Lib.SmallJoins
import Derived.Stop.LaidErr
import Derived.Deep.DeepHandedRow
namespace Go.Proofs.YtmplpbdldcokjaaGreatDoor
open Go.ChangeShapes Go.WideShapes Go.ChangeAt Go.RowKit Go.Joins
open Go.ChangeMaps (open_string shut_string)

theorem own : ownKnob Tryz.prog.godebug = none := by kernel_rfl
def lAll : List (String × DataW Unit) := Rows.messageOneRow.laid
theorem lAll_plain : (lAll.all fun x => x.2.handleName?.isNone) = true := by kernel_rfl
def nWords : String := "gameplayer/lexer.words"
theorem gWords : Tryz.prog.globalNamed nWords = some 6 := by kernel_rfl
theorem tWords : (Tryz.prog.globals[6]?).map (·.type) = some 166 := by kernel_rfl
theorem cStr : Tryz.prog.cellsOf 9 = 1 := by kernel_rfl
theorem cWords : Tryz.prog.cellsOf 166 = 3 := by kernel_rfl
theorem tTab : (Tryz.prog.globals[3]?).map (·.type) = some 144 := by kernel_rfl
theorem cTab : Tryz.prog.cellsOf 144 = 20 := by kernel_rfl
theorem cU64 : Tryz.prog.cellsOf 129 = 1 := by kernel_rfl
theorem le_max {n : Nat} (h : n ≤ maxLen) : n ≤ 9223372036854775807 := by unfold maxLen at h; omega
theorem str_of {x : DataW Unit × List MemPlace} {s : ByteArray} {l : List UInt8} (e : x = (.lit (.string s.data.toList), [])) (h : DataW.lit (.string l) = x.fst) : s = ⟨l.toArray⟩ := by
  rw [e] at h
  simp only [DataW.lit.injEq, Lit.string.injEq] at h
  cases s with
  | mk d => rw [h]
theorem take_one {l : List Value} {i : Nat} {a : Value} (h : List.take 1 (List.drop i l) = [a]) : l[i]? = some a := by
  have := congrArg (fun x => x[0]?) h
  simpa [List.getElem?_take, List.getElem?_drop] using this
theorem tb_of_laid {l : List (String × DataW Unit)} {W : World} (hm : (nTab, Lib.tabData .u64 Lib.pow10Tab) ∈ l) (h : laidMet Tryz.prog l W) : Tb W := by
  obtain ⟨g, t, cs, fuel, p, h1, h2, h3, h4⟩ := Lib.laidMet.reads h hm
  obtain rfl := Option.some.inj (gTab.symm.trans h1)
  obtain rfl := Option.some.inj (tTab.symm.trans h2)
  have := Lib.cells_of_tab Tryz.underlying144 Tryz.underlying129 cU64 cTab h4
  unfold Tb Lib.TabIs
  rw [h3]
  congr 1
  rw [← this]
theorem mem_third {a b : String × DataW Unit} {l : List (String × DataW Unit)} {x : String × DataW Unit} : x ∈ a :: b :: x :: l := List.mem_cons_of_mem _ (List.mem_cons_of_mem _ List.mem_cons_self)
theorem wd_of_laid {l : List (String × DataW Unit)} {W : World} (h : laidMet Tryz.prog ((nWords, Rows.laid_gameplayer_lexer_words) :: l) W) : Wd W := by
  obtain ⟨ps, ⟨g0, t0, cs0, f0, p0, q0, hg0, ht0, hv0, hd0, _, _⟩, _, _⟩ := h
  obtain rfl := Option.some.inj (gWords.symm.trans hg0)
  obtain rfl := Option.some.inj (tWords.symm.trans ht0)
  obtain ⟨xs, m1, rfl, hx1, hlen, hn3, hel⟩ := DataW.trod_array Tryz.underlying166 hd0
  simp only [Prod.mk.injEq, DataW.agg.injEq, Rows.laid_gameplayer_lexer_words] at hx1
  have cell : ∀ i < 3, W.cell? ⟨6, i, none⟩ = cs0[i]? := fun i _ => World.var?_cell hg0 hv0 i
  generalize hck : Tryz.prog.cellsOf 9 = k at hel
  obtain rfl : k = 1 := hck.symm.trans cStr
  have h0 := hel 0 (by decide)
  have h1 := hel 1 (by decide)
  have h2 := hel 2 (by decide)
  clear hel hd0
  match xs, hn3, hx1, h0, h1, h2 with
  | [x0, x1, x2], _, hx1, h0, h1, h2 =>
    simp only [List.map_cons, List.map_nil, List.cons.injEq] at hx1
    obtain ⟨s0, a0, b0, _⟩ := DataW.trod_string Tryz.underlying9 (show DataW.trod _ Tryz.prog W 0 _ false m1 9 _ = some x0 from h0)
    obtain ⟨s1, a1, b1, _⟩ := DataW.trod_string Tryz.underlying9 (show DataW.trod _ Tryz.prog W 0 _ false m1 9 _ = some x1 from h1)
    obtain ⟨s2, a2, b2, _⟩ := DataW.trod_string Tryz.underlying9 (show DataW.trod _ Tryz.prog W 0 _ false m1 9 _ = some x2 from h2)
    have e0 := str_of b0 hx1.1.1
    have e1 := str_of b1 hx1.1.2.1
    have e2 := str_of b2 hx1.1.2.2.1
    subst e0; subst e1; subst e2
    have c0 := (cell 0 (by decide)).trans (Array.getElem?_toList.symm.trans (take_one a0))
    have c1 := (cell 1 (by decide)).trans (Array.getElem?_toList.symm.trans (take_one a1))
    have c2 := (cell 2 (by decide)).trans (Array.getElem?_toList.symm.trans (take_one a2))
    refine ⟨?_, c0, c1, c2⟩
    rcases Nat.lt_or_ge 6 W.heap.size with hl | hl
    · omega
    · simp [World.cell?, Array.getElem?_eq_none hl] at c0

theorem starErr : "*" ++ "errors.errorString" = "*errors.errorString" := by decide
theorem rowErr (u : TypeId) (h : Tryz.prog.typeName? 3 u = some "*errors.errorString") : u = 161 :=
  typeName_ptr_named (nm := "errors.errorString") (by rw [starErr]; kernel_rfl) (by kernel_rfl) (by decide) u (by rw [starErr]; exact h)
theorem gSyn : Tryz.prog.globalNamed "strconv.ErrSyntax" = some 1 := by kernel_rfl
theorem gRan : Tryz.prog.globalNamed "strconv.ErrRange" = some 2 := by kernel_rfl
theorem tSyn : (Tryz.prog.globals[1]?).map (·.type) = some 67 := by kernel_rfl
theorem tRan : (Tryz.prog.globals[2]?).map (·.type) = some 67 := by kernel_rfl
theorem cErr : Tryz.prog.cellsOf 163 = 1 := by kernel_rfl
def nDb : String := "math/bits.deBruijn64tab"
theorem gDb : Tryz.prog.globalNamed nDb = some 8 := by kernel_rfl
theorem sz_of_laid {l : List (String × DataW Unit)} {d : DataW Unit} {W : World} (hm : (nDb, d) ∈ l) (h : laidMet Tryz.prog l W) : 9 ≤ W.heap.size := by
  obtain ⟨g, t, cs, fuel, p, h1, h2, h3, h4⟩ := Lib.laidMet.reads h hm
  obtain rfl := Option.some.inj (gDb.symm.trans h1)
  unfold World.var? at h3
  rw [gDb, Option.bind_some] at h3
  rcases Nat.lt_or_ge 8 W.heap.size with hl | hl
  · exact hl
  · rw [Array.getElem?_eq_none hl] at h3; simp at h3
/-- WHAT THE ROW's LIST GIVES. -/
theorem mw_of_laid {W : World} (h : laidMetH Tryz.prog lAll W) (hs : W.ShapedOpen Tryz.prog) : Mw W := by
  rw [MakeChecks.laidMetH_plain _ _ _ lAll_plain] at h
  have h4 := h.tail.tail.tail.tail
  obtain ⟨a1, s1, hv1, _, _, _⟩ := laid_sentinel h4 gRan tRan Tryz.underlying67 rowErr Tryz.underlying161 Tryz.underlying163 rfl rfl Tryz.underlying9 cErr cStr
  obtain ⟨a2, s2, hv2, _, _, _⟩ := laid_sentinel h4.tail gSyn tSyn Tryz.underlying67 rowErr Tryz.underlying161 Tryz.underlying163 rfl rfl Tryz.underlying9 cErr cStr
  have x1 := World.var?_cell gSyn hv2 0
  have x2 := World.var?_cell gRan hv1 0
  have hz : 9 ≤ W.heap.size := sz_of_laid (l := lAll) (d := Rows.laid_math_bits_deBruijn64tab) (List.mem_cons_of_mem _ List.mem_cons_self) h
  exact ⟨hz, wd_of_laid h4.tail.tail, tb_of_laid (l := lAll) mem_third h, ⟨by omega, ⟨_, _, x1.trans (by rfl)⟩, _, _, x2.trans (by rfl)⟩, cell_of_shapedOpen_int (zero := #[.int .i64 0]) (t := 3) hs (of_decide_eq_true (by kernel_rfl)) (by kernel_rfl) rfl (by kernel_rfl) (by kernel_rfl) Tryz.underlying3⟩
end Go.Proofs.YtmplpbdldcokjaaGreatDoor
