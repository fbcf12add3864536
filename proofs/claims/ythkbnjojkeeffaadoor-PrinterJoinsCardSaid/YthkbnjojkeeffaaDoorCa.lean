/- What the cards of this seat share: the listed table of reserved words, read in memory; a row's last step. -/
import Derived.Test.YthkbnjojkeeffaaDoorCards
import Derived.Test.YthkbnjojkeeffaaDoorTie
import Derived.Test.YthkbnjojkeeffaaDoorKd
import Derived.WalkKit
import Derived.ProofKit
import Derived.OpenShut
import Derived.LaidMore
import Derived.Deep.DeepHandedRow
namespace Go.Proofs.YthkbnjojkeeffaaDoor
open Go.ChangeShapes Go.WideShapes Go.ChangeAt Go.RowKit
open Go.ChangeMaps (open_string shut_string)

theorem own : ownKnob Tryd.prog.godebug = none := by kernel_rfl
def lWords : List (String × DataW Unit) := Rows.printerTextsRow.laid
def nWords : String := match lWords with | x :: _ => x.1 | [] => ""
theorem gWords : Tryd.prog.globalNamed nWords = some 1 := by kernel_rfl
theorem tWords : (Tryd.prog.globals[1]?).map (·.type) = some 121 := by kernel_rfl
theorem cStr : Tryd.prog.cellsOf 9 = 1 := by kernel_rfl
theorem cWords : Tryd.prog.cellsOf 121 = 3 := by kernel_rfl

theorem le_max {n : Nat} (h : n ≤ maxLen) : n ≤ 9223372036854775807 := by unfold maxLen at h; omega
theorem str_of {x : DataW Unit × List MemPlace} {s : ByteArray} {l : List UInt8} (e : x = (.lit (.string s.data.toList), [])) (h : DataW.lit (.string l) = x.fst) : s = ⟨l.toArray⟩ := by
  rw [e] at h
  simp only [DataW.lit.injEq, Lit.string.injEq] at h
  cases s with
  | mk d => rw [h]
theorem take_one {l : List Value} {i : Nat} {a : Value} (h : List.take 1 (List.drop i l) = [a]) : l[i]? = some a := by
  have := congrArg (fun x => x[0]?) h
  simpa [List.getElem?_take, List.getElem?_drop] using this
/-- WHAT THE ROW's LIST GIVES: the table's cells hold the three words. -/
theorem wd_of_laid {W : World} (h : laidMetH Tryd.prog lWords W) : Wd W := by
  rw [MakeChecks.laidMetH_plain _ _ _ (by kernel_rfl)] at h
  obtain ⟨ps, ⟨g0, t0, cs0, f0, p0, q0, hg0, ht0, hv0, hd0, _, _⟩, _, _⟩ := h
  obtain rfl := Option.some.inj (gWords.symm.trans hg0)
  obtain rfl := Option.some.inj (tWords.symm.trans ht0)
  obtain ⟨xs, m1, rfl, hx1, hlen, hn3, hel⟩ := DataW.trod_array Tryd.underlying121 hd0
  simp only [Prod.mk.injEq, DataW.agg.injEq, Rows.laid_gameplayer_lexer_words] at hx1
  have cell : ∀ i < 3, W.cell? ⟨1, i, none⟩ = cs0[i]? := fun i _ => World.var?_cell hg0 hv0 i
  generalize hck : Tryd.prog.cellsOf 9 = k at hel
  obtain rfl : k = 1 := hck.symm.trans cStr
  have h0 := hel 0 (by decide)
  have h1 := hel 1 (by decide)
  have h2 := hel 2 (by decide)
  clear hel hd0
  match xs, hn3, hx1, h0, h1, h2 with
  | [x0, x1, x2], _, hx1, h0, h1, h2 =>
    simp only [List.map_cons, List.map_nil, List.cons.injEq] at hx1
    obtain ⟨s0, a0, b0, _⟩ := DataW.trod_string Tryd.underlying9 (show DataW.trod _ Tryd.prog W 0 _ false m1 9 _ = some x0 from h0)
    obtain ⟨s1, a1, b1, _⟩ := DataW.trod_string Tryd.underlying9 (show DataW.trod _ Tryd.prog W 0 _ false m1 9 _ = some x1 from h1)
    obtain ⟨s2, a2, b2, _⟩ := DataW.trod_string Tryd.underlying9 (show DataW.trod _ Tryd.prog W 0 _ false m1 9 _ = some x2 from h2)
    have e0 := str_of b0 hx1.1.1
    have e1 := str_of b1 hx1.1.2.1
    have e2 := str_of b2 hx1.1.2.2.1
    subst e0; subst e1; subst e2
    have c0 := (cell 0 (by decide)).trans (Array.getElem?_toList.symm.trans (take_one a0))
    have c1 := (cell 1 (by decide)).trans (Array.getElem?_toList.symm.trans (take_one a1))
    have c2 := (cell 2 (by decide)).trans (Array.getElem?_toList.symm.trans (take_one a2))
    refine ⟨?_, c0, c1, c2⟩
    rcases Nat.lt_or_ge 1 W.heap.size with hl | hl
    · omega
    · simp [World.cell?, Array.getElem?_eq_none hl] at c0

section
variable {H : Type} {enc : TypeId × Value → H} {P : Program}
/-- 'post_of_same' where only 'Below' is known of the new world. -/
theorem post_of_below {f : Func} {s : ChangeSpec} {apart fresh handsOn again : Bool} {W W' : World} {args : Array Value} {v : Value} {ds gs : List (DataW H)} {before pa pv : List MemPlace}
    (hW : DataW.Whole enc P f.params.toList s.vars apart W args.toList ds gs before)
    (hres : ∀ (b : Nat) (sp : Nat → Bool) (hd : Bool), DataW.TrodAll enc P W' b sp hd f.resultTypes.toList (v.resultList f.resultTypes.size) (s.fn H (ds ++ gs)).results [])
    (hargs : ∀ sp : Nat → Bool, (∀ p ∈ before, sp p.block = true) → DataW.TrodAll enc P W' 0 sp true f.params.toList args.toList (s.fn H (ds ++ gs)).args pa)
    (hvars : ∀ sp : Nat → Bool, (∀ p ∈ before, sp p.block = true) → DataW.TrodVars enc P W' sp s.vars (s.fn H (ds ++ gs)).vars pv)
    (hps : before = pa ++ pv) (hb : Below W.heap.size W W')
    (hok : ∀ (j : Nat) (t : TypeId) (r : Value), f.resultTypes[j]? = some t → (v.resultList f.resultTypes.size)[j]? = some r → Value.okWide P W' .any 0 t r) :
    s.post enc P f apart fresh handsOn again W args v W' := by
  have hlt : ∀ p ∈ before, p.block < W.heap.size := fun p hp => hW.lt p hp
  have hold : ∀ p ∈ before, (fun b => decide (b < W.heap.size)) p.block = true := fun p hp => by simpa using hlt p hp
  refine ⟨ds, gs, before, [], pa, pv, hW, hres _ _ _, hargs _ hold, hvars _ hold, World.keptBut_mono (fun p hp => ⟨hp, ?_⟩) (hb.frame (· ∈ before)), fun _ => ?_⟩
  · rw [hps, List.mem_append] at hp
    exact Or.inr hp
  · obtain ⟨_, _, _, _, _, hz, hn⟩ := hW
    refine ⟨hok, _, _, ([] ++ pa) ++ pv, ⟨[] ++ pa, pv, trodAll_append (hargs _ (fun _ _ => rfl)) (hres _ _ _), hvars _ (fun _ _ => rfl), rfl, ?_, ?_⟩, ?_⟩
    · intro b off hp
      have hin : MemPlace.cell b off ∈ before := by rw [hps]; simpa using hp
      rw [hb.frozen (hlt _ hin)]
      exact hz b off hin
    · intro ha
      have := hn ha
      rw [hps] at this
      simpa using this
    · intro p hp _
      rw [hps]
      simpa using hp
end
end Go.Proofs.YthkbnjojkeeffaaDoor
