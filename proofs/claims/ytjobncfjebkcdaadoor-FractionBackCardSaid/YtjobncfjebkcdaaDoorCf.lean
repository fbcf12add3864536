/- What the cards of this seat share: the table of powers of ten in memory; a fraction by value; a row's last step. -/
import Derived.Test.YtjobncfjebkcdaaDoorCards
import Derived.Test.YtjobncfjebkcdaaDoorTie
import Derived.Test.YtjobncfjebkcdaaDoorFt
import Derived.WalkKit
import Derived.ProofKit
import Derived.OpenShut
import Derived.LaidMore
import Derived.Lib.LaidU8
import Derived.Lib.SmallJoins
import Derived.Deep.DeepHandedRow
namespace Go.Proofs.YtjobncfjebkcdaaDoor
open Go.ChangeShapes Go.WideShapes Go.ChangeAt Go.RowKit Go.Joins
open Go.ChangeMaps (open_string shut_string)

theorem own : ownKnob Tryd.prog.godebug = none := by kernel_rfl
theorem tTab : (Tryd.prog.globals[3]?).map (·.type) = some 92 := by kernel_rfl
theorem cTab : Tryd.prog.cellsOf 92 = 20 := by kernel_rfl
theorem cU64 : Tryd.prog.cellsOf 43 = 1 := by kernel_rfl
theorem cFrac : Tryd.prog.cellsOf 23 = 2 := by kernel_rfl
theorem le_max {n : Nat} (h : n ≤ maxLen) : n ≤ 9223372036854775807 := by unfold maxLen at h; omega

/-- WHAT THE ROW's LIST GIVES: the table's cells hold the powers of ten. -/
theorem tb_of_laid {l : List (String × DataW Unit)} {W : World} (hp : (l.all fun x => x.2.handleName?.isNone) = true) (hm : (nTab, Lib.tabData .u64 Lib.pow10Tab) ∈ l) (h : laidMetH Tryd.prog l W) : Tb W := by
  rw [MakeChecks.laidMetH_plain _ _ _ hp] at h
  obtain ⟨g, t, cs, fuel, p, h1, h2, h3, h4⟩ := Lib.laidMet.reads h hm
  obtain rfl := Option.some.inj (gTab.symm.trans h1)
  obtain rfl := Option.some.inj (tTab.symm.trans h2)
  have := Lib.cells_of_tab Tryd.underlying92 Tryd.underlying43 cU64 cTab h4
  unfold Tb Lib.TabIs
  rw [h3]
  congr 1
  rw [← this]
theorem mem_third {a b : String × DataW Unit} {l : List (String × DataW Unit)} {x : String × DataW Unit} : x ∈ a :: b :: x :: l := List.mem_cons_of_mem _ (List.mem_cons_of_mem _ List.mem_cons_self)
theorem min_i64 : IntKind.i64.min = -9223372036854775808 := by decide
theorem i64_of_wf {n : Int} (h : (Lit.int .i64 n).wf = true) : I64 n := by
  have := h
  simp [Lit.wf] at this
  rw [min_i64] at this
  unfold I64
  omega

section
variable {H : Type} {enc : TypeId × Value → H} {w : World} {base : Nat} {sp : Nat → Bool} {held : Bool}
theorem open_frac {r : Reach} {b0 : Nat} {v : Value} {d : DataW H} {p : List MemPlace} (hv : Value.okWide Tryd.prog w r b0 23 v) (h : DataW.Trod enc Tryd.prog w base sp held 23 v d p) :
    ∃ f : Fr, v = frV f ∧ d = .agg [.lit (.int .i64 f.num), .lit (.int .i64 f.den)] ∧ p = [] ∧ FI f := by
  obtain ⟨c0, c1, y0, y1, m, rfl, rfl, rfl, hy0, hy1⟩ := open_agg2 Tryd.underlying23 (by kernel_rfl) cFrac hv h
  obtain ⟨a, e0, rfl, wa⟩ := DataW.trod_int Tryd.underlying3 hy0
  obtain ⟨b, e1, rfl, wb⟩ := DataW.trod_int Tryd.underlying3 hy1
  simp at e0 e1
  subst e0 e1
  exact ⟨⟨a, b⟩, rfl, rfl, rfl, i64_of_wf wa, i64_of_wf wb⟩
theorem wf_of_i64 {n : Int} (h : I64 n) : (Lit.int .i64 n).wf = true := by
  unfold I64 at h
  simp [Lit.wf]
  rw [min_i64]
  omega
theorem shut_frac {f : Fr} (hf : FI f) : DataW.Trod enc Tryd.prog w base sp held 23 (frV f) (.agg [.lit (.int .i64 f.num), .lit (.int .i64 f.den)]) [] :=
  shut_agg2 (y0 := (.lit (.int .i64 f.num), [])) (y1 := (.lit (.int .i64 f.den), [])) Tryd.underlying23 (by kernel_rfl) cFrac ⟨1, by simp [DataW.trod, Tryd.underlying3, wf_of_i64 hf.1]⟩ ⟨1, by simp [DataW.trod, Tryd.underlying3, wf_of_i64 hf.2]⟩
end

section
variable {H : Type} {enc : TypeId × Value → H} {P : Program}
/-- 'post_of_same' where only 'Below' is known of the new world. -/
theorem post_of_below {f : Func} {s : ChangeSpec} {apart fresh handsOn again : Bool} {W W' : World} {args : Array Value} {v : Value} {ds gs : List (DataW H)} {before pa pv : List MemPlace}
    (hW : DataW.Whole enc P f.params.toList s.vars apart W args.toList ds gs before)
    (hres : ∀ (b : Nat) (sp : Nat → Bool) (hd : Bool), DataW.TrodAll enc P W' b sp hd f.resultTypes.toList (v.resultList f.resultTypes.size) (s.fn H (ds ++ gs)).results [])
    (hargs : ∀ sp : Nat → Bool, (∀ p ∈ before, sp p.block = true) → DataW.TrodAll enc P W' 0 sp true f.params.toList args.toList (s.fn H (ds ++ gs)).args pa)
    (hvars : ∀ sp : Nat → Bool, (∀ p ∈ before, sp p.block = true) → DataW.TrodVars enc P W' sp s.vars (s.fn H (ds ++ gs)).vars pv)
    (hps : before = pa ++ pv) (hb : Below W.heap.size W W')
    (hok : ∀ (j : Nat) (t : TypeId) (r : Value), f.resultTypes[j]? = some t → (v.resultList f.resultTypes.size)[j]? = some r → Value.okWide P W' .any 0 t r) :
    s.post enc P f apart fresh handsOn again W args v W' := by
  have hlt : ∀ p ∈ before, p.block < W.heap.size := fun p hp => hW.lt p hp
  have hold : ∀ p ∈ before, (fun b => decide (b < W.heap.size)) p.block = true := fun p hp => by simpa using hlt p hp
  refine ⟨ds, gs, before, [], pa, pv, hW, hres _ _ _, hargs _ hold, hvars _ hold, World.keptBut_mono (fun p hp => ⟨hp, ?_⟩) (hb.frame (· ∈ before)), fun _ => ?_⟩
  · rw [hps, List.mem_append] at hp
    exact Or.inr hp
  · obtain ⟨_, _, _, _, _, hz, hn⟩ := hW
    refine ⟨hok, _, _, ([] ++ pa) ++ pv, ⟨[] ++ pa, pv, trodAll_append (hargs _ (fun _ _ => rfl)) (hres _ _ _), hvars _ (fun _ _ => rfl), rfl, ?_, ?_⟩, ?_⟩
    · intro b off hp
      have hin : MemPlace.cell b off ∈ before := by rw [hps]; simpa using hp
      rw [hb.frozen (hlt _ hin)]
      exact hz b off hin
    · intro ha
      have := hn ha
      rw [hps] at this
      simpa using this
    · intro p hp _
      rw [hps]
      simpa using hp
end
end Go.Proofs.YtjobncfjebkcdaaDoor
