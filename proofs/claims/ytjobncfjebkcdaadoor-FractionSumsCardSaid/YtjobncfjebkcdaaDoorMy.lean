/- A region that draws its order: its reads first, each with the fact that it needs; behind them whatever comes up next. A fact must hold only as long as no operation that waits for its read has been made: so a store of the region may break it. -/
import Derived.Test.YtjobncfjebkcdaaDoorMx
namespace Go.Proofs.YtjobncfjebkcdaaDoor
open Go

section
variable {P : Program} {ops : Array Oper} {Q : Exit → Act → World → Prop} {gs : List (List Nat × (World → Prop))}

def waits (ops : Array Oper) (k i : Nat) : Bool :=
  match ops[k]? with
  | none => false
  | some o => o.after.any fun e => Region.binds .any e && e.on == i
def noneWaits (ops : Array Oper) (listed : Array Bool) (i : Nat) : Bool := (List.range ops.size).all fun k => k == i || !listed.getD k true || !waits ops k i
theorem noneWaits_iff {listed : Array Bool} {i : Nat} : noneWaits ops listed i = true ↔ ∀ k < ops.size, k ≠ i → listed.getD k true = true → waits ops k i = false := by
  unfold noneWaits
  rw [List.all_eq_true]
  constructor
  · intro h k hk hne hl
    have := h k (List.mem_range.2 hk)
    simpa [hne, hl] using this
  · intro h k hk
    have hk := List.mem_range.1 hk
    by_cases hne : k = i
    · simp [hne]
    · cases hl : listed.getD k true with
      | false => simp
      | true => simp [h k hk hne hl]
theorem getD_set_self {listed : Array Bool} {k : Nat} : (listed.setIfInBounds k true).getD k true = true := by
  by_cases hk : k < listed.size <;> simp [Array.getD, hk]
theorem noneWaits_anti {listed : Array Bool} {k i : Nat} (h : noneWaits ops (listed.setIfInBounds k true) i = true) : noneWaits ops listed i = true := by
  rw [noneWaits_iff] at *
  intro j hj hne hl
  refine h j hj hne ?_
  rcases Decidable.em (k = j) with rfl | hkj
  · exact getD_set_self
  · rwa [getD_set_ne true hkj]
theorem noneWaits_set {listed : Array Bool} {k i : Nat} (h : noneWaits ops listed i = true) (hw : waits ops k i = false) : noneWaits ops (listed.setIfInBounds k true) i = true := by
  rw [noneWaits_iff] at *
  intro j hj hne hl
  rcases Decidable.em (k = j) with rfl | hkj
  · exact hw
  · exact h j hj hne (by rwa [getD_set_ne true hkj] at hl)
theorem waits_no {j i : Nat} {oj : Oper} (hj : ops[j]? = some oj) (hno : ∀ e ∈ oj.after, Region.binds .any e = true → e.on ≠ i) : waits ops j i = false := by
  unfold waits
  rw [hj]
  simp only
  rw [Bool.eq_false_iff]
  intro h
  obtain ⟨e, he, hb⟩ := Array.any_eq_true'.1 h
  simp only [Bool.and_eq_true, beq_iff_eq] at hb
  exact hno e he hb.1 hb.2

/-- each fact holds while nothing that waits for its read has been made -/
def CG (ops : Array Oper) (gs : List (List Nat × (World → Prop))) (listed : Array Bool) (w : World) : Prop := ∀ g ∈ gs, ∀ i ∈ g.1, noneWaits ops listed i = true → g.2 w
theorem CG.set {listed : Array Bool} {w : World} (h : CG ops gs listed w) (k : Nat) : CG ops gs (listed.setIfInBounds k true) w := fun g hg i hi hn => h g hg i hi (noneWaits_anti hn)
def freeOf (ops : Array Oper) (gs : List (List Nat × (World → Prop))) (i : Nat) : Bool := gs.all fun g => g.1.all fun k => !waits ops i k
theorem freeOf_spec {i : Nat} (h : freeOf ops gs i = true) : ∀ g ∈ gs, ∀ k ∈ g.1, waits ops i k = false := by
  intro g hg k hk
  have := List.all_eq_true.1 (List.all_eq_true.1 h g hg) k hk
  simpa using this

def AnyR (P : Program) (ops : Array Oper) (Q : Exit → Act → World → Prop) (gs : List (List Nat × (World → Prop))) : Nat → Array Bool → Act → World → Prop
  | 0, listed, a, w => Region.ready .any ops listed = [] ∧ Q .normal a w
  | n + 1, listed, a, w => (Region.ready .any ops listed = [] → Q .normal a w) ∧
      ∀ i ∈ Region.ready .any ops listed, wpOp P ops Q i (fun a' w' => CG ops gs (listed.setIfInBounds i true) w' ∧ AnyR P ops Q gs n (listed.setIfInBounds i true) a' w') a w

theorem anyR_sound : ∀ (n : Nat) (listed : Array Bool) (a : Act) (w : World), AnyR P ops Q gs n listed a w → wpAny P .any ops Q n listed a w
  | 0, _, _, _, h => h
  | n + 1, _, _, _, h => ⟨h.1, fun i hi => wpOp_mono (fun a' w' h' => anyR_sound n _ a' w' h'.2) (h.2 i hi)⟩

theorem anyR_first {i : Nat} {oi : Oper} {v : Value} {V : World → Prop} (hV : ∀ listed w, noneWaits ops listed i = true → CG ops gs listed w → V w) (hfg : ∀ g ∈ gs, ∀ k ∈ g.1, waits ops i k = false) (hi : ops[i]? = some oi) (hsel : Region.noSelect ops = true)
    (hQ : ∀ c a w, Q (.panic c) (a.put oi.dst v) w → Q (.panic c) a w) :
    ∀ (n : Nat) (listed : Array Bool) (a : Act) (w : World),
      (∀ j oj, ops[j]? = some oj → j ≠ i → listed.getD j true = false → (∀ e ∈ oj.after, Region.binds .any e = true → e.on ≠ i) → oi.apart ops oj = true) →
      noneWaits ops listed i = true → i ∈ Region.ready .any ops listed → YieldsIf P ops V oi v a → CG ops gs listed w →
      AnyR P ops Q gs n (listed.setIfInBounds i true) (a.put oi.dst v) w → AnyR P ops Q gs (n + 1) listed a w := by
  intro n
  induction n with
  | zero =>
    intro listed a w _ hnw hr hy hS H
    refine ⟨fun h => absurd hr (by rw [h]; exact List.not_mem_nil), fun j hj => ?_⟩
    rcases Decidable.em (j = i) with rfl | hji
    · exact hy.wpOp hi (hV _ _ hnw hS) ⟨hS.set j, H⟩
    · exact absurd (ready_mono hj hji) (by rw [H.1]; exact List.not_mem_nil)
  | succ n ih =>
    intro listed a w hfree hnw hr hy hS H
    refine ⟨fun h => absurd hr (by rw [h]; exact List.not_mem_nil), fun j hj => ?_⟩
    rcases Decidable.em (j = i) with rfl | hji
    · exact hy.wpOp hi (hV _ _ hnw hS) ⟨hS.set j, H⟩
    · obtain ⟨hun, oj, hoj, hall⟩ := mem_ready.1 hj
      have hno := not_on hr hall
      have hap := hfree j oj hoj hji hun hno
      have hjw := waits_no (ops := ops) hoj hno
      have hstep := wpOp_putIf (S := V) hoj hap (Region.noSelect_spec hsel i oi · · hi) (Region.noSelect_spec hsel j oj · · hoj) hQ hy (H.2 j (ready_mono hj hji))
      refine wpOp_mono (fun a' w' h3 => ?_) hstep
      have hC : CG ops gs (listed.setIfInBounds j true) w' := fun g hg k hk hn => h3.2.1 g hg k hk (by
        rw [Array.setIfInBounds_comm _ _ (Ne.symm hji)]
        exact noneWaits_set hn (hfg g hg k hk))
      refine ⟨hC, ?_⟩
      refine ih (listed.setIfInBounds j true) a' w' (fun k ok hk hki hunk hno => hfree k ok hk hki ?_ hno) (noneWaits_set hnw hjw) (ready_mono hr (Ne.symm hji)) h3.1 hC ?_
      · rcases Decidable.em (j = k) with rfl | hjk
        · exact hun
        · rwa [getD_set_ne true hjk] at hunk
      · rw [Array.setIfInBounds_comm _ _ hji]
        exact h3.2.2

/-- a read of a group -/
theorem anyR_take {l : List Oper} (i : Nat) {oi : Oper} {v : Value} {n : Nat} {listed : Array Bool} {a : Act} {w : World} (g : List Nat × (World → Prop)) (hg : g ∈ gs) (hig : i ∈ g.1) (hi : l[i]? = some oi)
    (hs : Region.noSelect l.toArray = true) (hf : Region.free .any l.toArray listed i = true) (hr : (Region.ready .any l.toArray listed).contains i = true) (hnw : noneWaits l.toArray listed i = true) (hfg : freeOf l.toArray gs i = true)
    (hQ : ∀ c a w, Q (.panic c) (a.put oi.dst v) w → Q (.panic c) a w) (hw : Region.wanted oi (yielded l.toArray a.tmps) = true) (hy : ∀ w', g.2 w' → (execOp a.eval oi).run P w' = .ok (.value v) w') (hC : CG l.toArray gs listed w)
    (h : AnyR P l.toArray Q gs n (listed.setIfInBounds i true) (a.put oi.dst v) w) : AnyR P l.toArray Q gs (n + 1) listed a w :=
  anyR_first (V := g.2) (fun _ _ hn hc => hc g hg i hig hn) (freeOf_spec hfg) (by rw [List.getElem?_toArray]; exact hi) hs hQ n listed a w (Region.free_spec (by rw [List.getElem?_toArray]; exact hi) hf) hnw (by simpa using hr) (.inl ⟨hw, hy⟩) hC h
/-- an operation that reads no memory -/
theorem anyR_pure {l : List Oper} (i : Nat) {oi : Oper} {v : Value} {n : Nat} {listed : Array Bool} {a : Act} {w : World} (hi : l[i]? = some oi)
    (hs : Region.noSelect l.toArray = true) (hf : Region.free .any l.toArray listed i = true) (hr : (Region.ready .any l.toArray listed).contains i = true) (hnw : noneWaits l.toArray listed i = true) (hfg : freeOf l.toArray gs i = true)
    (hQ : ∀ c a w, Q (.panic c) (a.put oi.dst v) w → Q (.panic c) a w) (hw : Region.wanted oi (yielded l.toArray a.tmps) = true) (hy : ∀ w', (execOp a.eval oi).run P w' = .ok (.value v) w') (hC : CG l.toArray gs listed w)
    (h : AnyR P l.toArray Q gs n (listed.setIfInBounds i true) (a.put oi.dst v) w) : AnyR P l.toArray Q gs (n + 1) listed a w :=
  anyR_first (V := fun _ => True) (fun _ _ _ _ => trivial) (freeOf_spec hfg) (by rw [List.getElem?_toArray]; exact hi) hs hQ n listed a w (Region.free_spec (by rw [List.getElem?_toArray]; exact hi) hf) hnw (by simpa using hr) (.inl ⟨hw, fun w' _ => hy w'⟩) hC h

/-- THE LAW -/
theorem region_R {id : Nat} {a : Act} {w : World} {l : List Oper} (gs : List (List Nat × (World → Prop))) (m : Nat) (hm : P.follows .mixedOrders = true) (hsz : l.toArray.size = m) (hS : CG l.toArray gs (Array.replicate l.toArray.size false) w.drew)
    (h : CG l.toArray gs (Array.replicate m false) w.drew → AnyR P l.toArray Q gs m (Array.replicate m false) a w.drew) : (Code.region id l.toArray true).wp P Q a w := by
  refine wp_region_any hm ?_
  rw [hsz] at *
  exact anyR_sound _ _ _ _ (h hS)
theorem cg_all {listed : Array Bool} {w : World} (h : ∀ g ∈ gs, g.2 w) : CG ops gs listed w := fun g hg _ _ _ => h g hg

/-- what may come up next -/
def AllR (P : Program) (ops : Array Oper) (Q : Exit → Act → World → Prop) (gs : List (List Nat × (World → Prop))) (n : Nat) (listed : Array Bool) (a : Act) (w : World) : List Nat → Prop
  | [] => True
  | k :: rs => (∃ o, ops[k]? = some o ∧ ∀ K : Act → World → Prop, (∀ a' w', CG ops gs (listed.setIfInBounds k true) w' → AnyR P ops Q gs n (listed.setIfInBounds k true) a' w' → K a' w') →
      if Region.wanted o (yielded ops a.tmps) = true then Oper.wp P o a w K Q else K (a.put o.dst undef) w) ∧ AllR P ops Q gs n listed a w rs
theorem allR_mem {n : Nat} {listed : Array Bool} {a : Act} {w : World} : ∀ {rs : List Nat}, AllR P ops Q gs n listed a w rs → ∀ k ∈ rs, ∃ o, ops[k]? = some o ∧ ∀ K : Act → World → Prop, (∀ a' w', CG ops gs (listed.setIfInBounds k true) w' → AnyR P ops Q gs n (listed.setIfInBounds k true) a' w' → K a' w') →
      if Region.wanted o (yielded ops a.tmps) = true then Oper.wp P o a w K Q else K (a.put o.dst undef) w
  | [], _, _, hk => by cases hk
  | r :: rs, h, k, hk => by
    rcases List.mem_cons.1 hk with rfl | hk
    · exact h.1
    · exact allR_mem h.2 k hk
theorem anyR_next {n : Nat} {listed : Array Bool} {a : Act} {w : World} (rs : List Nat) (hr : decide (Region.ready .any ops listed = rs) = true) (hne : rs.isEmpty = false) (h : AllR P ops Q gs n listed a w rs) : AnyR P ops Q gs (n + 1) listed a w := by
  have hr := of_decide_eq_true hr
  refine ⟨fun h0 => ?_, fun i hi => ?_⟩
  · rw [hr] at h0
    rw [h0] at hne
    cases hne
  rw [hr] at hi
  obtain ⟨o, ho, hK⟩ := allR_mem h i hi
  have h2 := hK _ (fun a' w' h1 h2 => (⟨h1, h2⟩ : CG ops gs (listed.setIfInBounds i true) w' ∧ AnyR P ops Q gs n (listed.setIfInBounds i true) a' w'))
  unfold wpOp
  simp only [ho]
  split
  · rename_i hw
    rw [if_pos hw] at h2
    exact .inl h2
  · rename_i hw
    rw [if_neg hw] at h2
    exact h2
theorem allR_cons {n : Nat} {listed : Array Bool} {a : Act} {w : World} {k : Nat} {rs : List Nat} {l : List Oper} (o : Oper) (ho : l[k]? = some o) (hw : Region.wanted o (yielded l.toArray a.tmps) = true)
    (h : ∀ K : Act → World → Prop, (∀ a' w', CG l.toArray gs (listed.setIfInBounds k true) w' → AnyR P l.toArray Q gs n (listed.setIfInBounds k true) a' w' → K a' w') → Oper.wp P o a w K Q) (h2 : AllR P l.toArray Q gs n listed a w rs) : AllR P l.toArray Q gs n listed a w (k :: rs) :=
  ⟨⟨o, by rw [List.getElem?_toArray]; exact ho, fun K hK => by rw [if_pos hw]; exact h K hK⟩, h2⟩
theorem anyR_done {listed : Array Bool} {a : Act} {w : World} (hr : decide (Region.ready .any ops listed = []) = true) (h : Q .normal a w) : AnyR P ops Q gs 0 listed a w := ⟨of_decide_eq_true hr, h⟩
/-- a group whose read somebody has waited for asks no more -/
theorem cg_cons {listed : Array Bool} {w : World} {g : List Nat × (World → Prop)} {gs : List (List Nat × (World → Prop))} (h : g.2 w ∨ (g.1.all fun i => !noneWaits ops listed i) = true) (h2 : CG ops gs listed w) : CG ops (g :: gs) listed w := by
  intro g' hg' i hi hn
  rcases List.mem_cons.1 hg' with rfl | hg'
  · rcases h with h | h
    · exact h
    · have := List.all_eq_true.1 h i hi
      rw [hn] at this
      cases this
  · exact h2 g' hg' i hi hn
theorem cg_nil {listed : Array Bool} {w : World} : CG ops [] listed w := fun _ h => by cases h
end
end Go.Proofs.YtjobncfjebkcdaaDoor
