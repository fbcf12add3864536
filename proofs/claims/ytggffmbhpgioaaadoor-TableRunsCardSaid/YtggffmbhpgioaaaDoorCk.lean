/- What the cards of this seat share: the table of powers of ten in memory; slices of whole numbers that came in; a row's last step. -/
import Derived.Test.YtggffmbhpgioaaaDoorCards
import Derived.Test.YtggffmbhpgioaaaDoorTie
import Derived.Test.YtggffmbhpgioaaaDoorZc
import Derived.Test.YtggffmbhpgioaaaDoorOa
import Derived.WalkKit
import Derived.ProofKit
import Derived.OpenShut
import Derived.LaidMore
import Derived.Lib.LaidU8
import Derived.Lib.SmallJoins
import Derived.Deep.DeepHandedRow
namespace Go.Proofs.YtggffmbhpgioaaaDoor
open Go.ChangeShapes Go.WideShapes Go.ChangeAt Go.RowKit Go.Joins
open Go.ChangeMaps (open_string shut_string)

theorem own : ownKnob Tryd.prog.godebug = none := by kernel_rfl
theorem tTab : (Tryd.prog.globals[0]?).map (·.type) = some 97 := by kernel_rfl
theorem cTab : Tryd.prog.cellsOf 97 = 20 := by kernel_rfl
theorem cU64 : Tryd.prog.cellsOf 24 = 1 := by kernel_rfl
theorem cInt : Tryd.prog.cellsOf 3 = 1 := by kernel_rfl
theorem le_max {n : Nat} (h : n ≤ maxLen) : n ≤ 9223372036854775807 := by unfold maxLen at h; omega

/-- WHAT THE ROW's LIST GIVES: the table's cells hold the powers of ten. -/
theorem tb_of_laid {l : List (String × DataW Unit)} {W : World} (hp : (l.all fun x => x.2.handleName?.isNone) = true) (hm : (nTab, Lib.tabData .u64 Lib.pow10Tab) ∈ l) (h : laidMetH Tryd.prog l W) : Tb W := by
  rw [MakeChecks.laidMetH_plain _ _ _ hp] at h
  obtain ⟨g, t, cs, fuel, p, h1, h2, h3, h4⟩ := Lib.laidMet.reads h hm
  obtain rfl := Option.some.inj (gTab.symm.trans h1)
  obtain rfl := Option.some.inj (tTab.symm.trans h2)
  have := Lib.cells_of_tab Tryd.underlying97 Tryd.underlying24 cU64 cTab h4
  unfold Tb Lib.TabIs
  rw [h3]
  congr 1
  rw [← this]
theorem mem_third {a b : String × DataW Unit} {l : List (String × DataW Unit)} {x : String × DataW Unit} : x ∈ a :: b :: x :: l := List.mem_cons_of_mem _ (List.mem_cons_of_mem _ List.mem_cons_self)
theorem min_i64 : IntKind.i64.min = -9223372036854775808 := by decide
theorem i64_of_wf {n : Int} (h : (Lit.int .i64 n).wf = true) : I64 n := by
  have := h
  simp [Lit.wf] at this
  rw [min_i64] at this
  unfold I64
  omega

theorem mem_first {x : String × DataW Unit} {l : List (String × DataW Unit)} : x ∈ x :: l := List.mem_cons_self
section
variable {H : Type} {enc : TypeId × Value → H} {w : World}
theorem int_cells {f : Nat} {x : List Value} {y : DataW H × List MemPlace} (hl : x.length = 1) (h : DataW.trod enc Tryd.prog w 0 (fun _ => true) true f 3 x = some y) : ∃ n : Int, x = [.int .i64 n] ∧ I64 n := by
  match x, hl with
  | [c0], _ =>
    obtain ⟨a, e0, _, wa⟩ := DataW.trod_int Tryd.underlying3 h
    simp at e0
    subst e0
    exact ⟨a, rfl, i64_of_wf wa⟩
theorem open_ints {r : Reach} {b0 : Nat} {v : Value} {d : DataW H} {p : List MemPlace} (hv : Value.okWide Tryd.prog w r b0 22 v) (h : DataW.Trod enc Tryd.prog w 0 (fun _ => true) true 22 v d p) :
    ∃ (A : Option Addr) (cap : Nat) (l : List Int), v = .slice A l.length cap ∧ l.length ≤ 9223372036854775807 ∧ (∀ x ∈ l, I64 x) ∧ IntS w A l := by
  obtain ⟨A, n, cap, xs, rfl, hxl, hn, harr, hel⟩ := open_arr Tryd.underlying22 cInt (by decide) hv h
  obtain ⟨l, hl, hall⟩ := list_choose (R := fun x (g : Int) => x = [.int .i64 g] ∧ I64 g) xs (fun x hx => by
    obtain ⟨h1, f, y, h2⟩ := hel x hx
    exact int_cells h1 h2)
  have hln : l.length = n := by omega
  have hget : ∀ (i : Nat) (f : Int), l[i]? = some f → ∃ x, xs[i]? = some x ∧ x = [.int .i64 f] ∧ I64 f := by
    intro i f hf
    have hi : i < l.length := (List.getElem?_eq_some_iff.1 hf).1
    have hx : xs[i]? = some (xs[i]'(by omega)) := List.getElem?_eq_getElem (by omega)
    exact ⟨_, hx, hall i _ f hx hf⟩
  refine ⟨A, cap, l, by rw [hln], by unfold maxLen at hn; omega, fun x hx => ?_, fun hp => ?_⟩
  · obtain ⟨i, hi, rfl⟩ := List.getElem_of_mem hx
    obtain ⟨_, _, _, h⟩ := hget i _ (List.getElem?_eq_getElem hi)
    exact h
  · obtain ⟨b, o, hA, hlt, hc⟩ := harr (by omega)
    refine ⟨b, o, hA, hlt, fun i f hf => ?_⟩
    obtain ⟨x, hx, rfl, _⟩ := hget i f hf
    have := hc i _ hx 0 _ rfl
    simpa using this
end
section
variable {H : Type} {enc : TypeId × Value → H} {P : Program}
/-- 'post_of_same' where only 'Below' is known of the new world. -/
theorem post_of_below {f : Func} {s : ChangeSpec} {apart fresh handsOn again : Bool} {W W' : World} {args : Array Value} {v : Value} {ds gs : List (DataW H)} {before pa pv : List MemPlace}
    (hW : DataW.Whole enc P f.params.toList s.vars apart W args.toList ds gs before)
    (hres : ∀ (b : Nat) (sp : Nat → Bool) (hd : Bool), DataW.TrodAll enc P W' b sp hd f.resultTypes.toList (v.resultList f.resultTypes.size) (s.fn H (ds ++ gs)).results [])
    (hargs : ∀ sp : Nat → Bool, (∀ p ∈ before, sp p.block = true) → DataW.TrodAll enc P W' 0 sp true f.params.toList args.toList (s.fn H (ds ++ gs)).args pa)
    (hvars : ∀ sp : Nat → Bool, (∀ p ∈ before, sp p.block = true) → DataW.TrodVars enc P W' sp s.vars (s.fn H (ds ++ gs)).vars pv)
    (hps : before = pa ++ pv) (hb : Below W.heap.size W W')
    (hok : ∀ (j : Nat) (t : TypeId) (r : Value), f.resultTypes[j]? = some t → (v.resultList f.resultTypes.size)[j]? = some r → Value.okWide P W' .any 0 t r) :
    s.post enc P f apart fresh handsOn again W args v W' := by
  have hlt : ∀ p ∈ before, p.block < W.heap.size := fun p hp => hW.lt p hp
  have hold : ∀ p ∈ before, (fun b => decide (b < W.heap.size)) p.block = true := fun p hp => by simpa using hlt p hp
  refine ⟨ds, gs, before, [], pa, pv, hW, hres _ _ _, hargs _ hold, hvars _ hold, World.keptBut_mono (fun p hp => ⟨hp, ?_⟩) (hb.frame (· ∈ before)), fun _ => ?_⟩
  · rw [hps, List.mem_append] at hp
    exact Or.inr hp
  · obtain ⟨_, _, _, _, _, hz, hn⟩ := hW
    refine ⟨hok, _, _, ([] ++ pa) ++ pv, ⟨[] ++ pa, pv, trodAll_append (hargs _ (fun _ _ => rfl)) (hres _ _ _), hvars _ (fun _ _ => rfl), rfl, ?_, ?_⟩, ?_⟩
    · intro b off hp
      have hin : MemPlace.cell b off ∈ before := by rw [hps]; simpa using hp
      rw [hb.frozen (hlt _ hin)]
      exact hz b off hin
    · intro ha
      have := hn ha
      rw [hps] at this
      simpa using this
    · intro p hp _
      rw [hps]
      simpa using hp
end
end Go.Proofs.YtggffmbhpgioaaaDoor
