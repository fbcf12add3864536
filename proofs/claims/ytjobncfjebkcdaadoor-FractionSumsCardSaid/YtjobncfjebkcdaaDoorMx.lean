/- A region that draws its order: some operations only read (the same value in every world that meets S), the others come in one forced order and keep S, but for the last one. Then one walk serves: the reads first, the others behind them. -/
import Derived.OrdersHeld
import Derived.Tactics
import Derived.KernelRfl
namespace Go.Proofs.YtjobncfjebkcdaaDoor
open Go

section
variable {P : Program} {ops : Array Oper} {Q : Exit → Act → World → Prop} {S : World → Prop}

/-- whatever order is drawn; S holds behind each operation but t, the last one -/
def AnyT (P : Program) (ops : Array Oper) (Q : Exit → Act → World → Prop) (S : World → Prop) (t : Nat) : Nat → Array Bool → Act → World → Prop
  | 0, listed, a, w => Region.ready .any ops listed = [] ∧ Q .normal a w
  | n + 1, listed, a, w => (Region.ready .any ops listed = [] → Q .normal a w) ∧
      ∀ i ∈ Region.ready .any ops listed, wpOp P ops Q i (fun a' w' => (i ≠ t → S w') ∧ AnyT P ops Q S t n (listed.setIfInBounds i true) a' w') a w

theorem anyT_sound {t : Nat} : ∀ (n : Nat) (listed : Array Bool) (a : Act) (w : World), AnyT P ops Q S t n listed a w → wpAny P .any ops Q n listed a w
  | 0, _, _, _, h => h
  | n + 1, _, _, _, h => ⟨h.1, fun i hi => wpOp_mono (fun a' w' h' => anyT_sound n _ a' w' h'.2) (h.2 i hi)⟩

theorem not_on {listed : Array Bool} {i : Nat} {oj : Oper} (hi : i ∈ Region.ready .any ops listed) (hj : ∀ e ∈ oj.after, Region.binds .any e = true → listed.getD e.on false = true) :
    ∀ e ∈ oj.after, Region.binds .any e = true → e.on ≠ i := by
  intro e he hb heq
  have h1 := hj e he hb
  rw [heq] at h1
  have h0 := (mem_ready.1 hi).1
  rcases Nat.lt_or_ge i listed.size with hlt | hge
  · simp [hlt] at h0 h1
    rw [h0] at h1
    cases h1
  · simp [Array.getElem?_eq_none hge] at h1

/-- t waits for every other operation -/
def waitsAll (ops : Array Oper) (t : Nat) : Bool :=
  match ops[t]? with
  | none => false
  | some o => (List.range ops.size).all fun i => i == t || o.after.any fun e => Region.binds .any e && e.on == i
theorem waitsAll_spec {t i : Nat} {o : Oper} (h : waitsAll ops t = true) (ho : ops[t]? = some o) (hi : i < ops.size) (hne : i ≠ t) : ∃ e ∈ o.after, Region.binds .any e = true ∧ e.on = i := by
  unfold waitsAll at h
  rw [ho] at h
  have h1 := List.all_eq_true.1 h i (List.mem_range.2 hi)
  simp only [Bool.or_eq_true, beq_iff_eq, hne, false_or] at h1
  obtain ⟨e, he, hb⟩ := Array.any_eq_true'.1 h1
  simp only [Bool.and_eq_true, beq_iff_eq] at hb
  exact ⟨e, he, hb.1, hb.2⟩

/-- a read that may come up now is as well taken first -/
theorem anyT_first {i t : Nat} {oi : Oper} {v : Value} (hi : ops[i]? = some oi) (hsel : Region.noSelect ops = true) (hwt : waitsAll ops t = true) (hit : i ≠ t)
    (hQ : ∀ c a w, Q (.panic c) (a.put oi.dst v) w → Q (.panic c) a w) :
    ∀ (n : Nat) (listed : Array Bool) (a : Act) (w : World),
      (∀ j oj, ops[j]? = some oj → j ≠ i → listed.getD j true = false → (∀ e ∈ oj.after, Region.binds .any e = true → e.on ≠ i) → oi.apart ops oj = true) →
      i ∈ Region.ready .any ops listed → YieldsIf P ops S oi v a → S w →
      AnyT P ops Q S t n (listed.setIfInBounds i true) (a.put oi.dst v) w → AnyT P ops Q S t (n + 1) listed a w := by
  intro n
  induction n with
  | zero =>
    intro listed a w _ hr hy hS H
    refine ⟨fun h => absurd hr (by rw [h]; exact List.not_mem_nil), fun j hj => ?_⟩
    rcases Decidable.em (j = i) with rfl | hji
    · exact hy.wpOp hi hS ⟨fun _ => hS, H⟩
    · exact absurd (ready_mono hj hji) (by rw [H.1]; exact List.not_mem_nil)
  | succ n ih =>
    intro listed a w hfree hr hy hS H
    refine ⟨fun h => absurd hr (by rw [h]; exact List.not_mem_nil), fun j hj => ?_⟩
    rcases Decidable.em (j = i) with rfl | hji
    · exact hy.wpOp hi hS ⟨fun _ => hS, H⟩
    · obtain ⟨hun, oj, hoj, hall⟩ := mem_ready.1 hj
      have hno := not_on hr hall
      have hjt : j ≠ t := by
        rintro rfl
        obtain ⟨e, he, hb, hon⟩ := waitsAll_spec hwt hoj (Array.getElem?_eq_some_iff.1 hi).1 hit
        exact hno e he hb hon
      have hap := hfree j oj hoj hji hun hno
      have hstep := wpOp_putIf (S := S) hoj hap (Region.noSelect_spec hsel i oi · · hi) (Region.noSelect_spec hsel j oj · · hoj) hQ hy (H.2 j (ready_mono hj hji))
      refine wpOp_mono (fun a' w' h3 => ⟨h3.2.1, ?_⟩) hstep
      refine ih (listed.setIfInBounds j true) a' w' (fun k ok hk hki hunk hno => hfree k ok hk hki ?_ hno) (ready_mono hr (Ne.symm hji)) h3.1 (h3.2.1 hjt) ?_
      · rcases Decidable.em (j = k) with rfl | hjk
        · exact hun
        · rwa [getD_set_ne true hjk] at hunk
      · rw [Array.setIfInBounds_comm _ _ hji]
        exact h3.2.2

/-- the operations of an index list -/
def picks (ops : Array Oper) (l : List Nat) : List Oper := l.filterMap fun i => ops[i]?
/-- the others, in their forced order -/
def Eff (P : Program) (ops : Array Oper) (Q : Exit → Act → World → Prop) (S : World → Prop) : List Oper → Act → World → Prop
  | [], a, w => Q .normal a w
  | o :: rest, a, w =>
    if Region.wanted o (yielded ops a.tmps) = true then Oper.wp P o a w (fun a' w' => (rest ≠ [] → S w') ∧ Eff P ops Q S rest a' w') Q
    else (rest ≠ [] → S w) ∧ Eff P ops Q S rest (a.put o.dst undef) w
/-- the reads -/
def Reads1 (P : Program) (ops : Array Oper) (S : World → Prop) (K : Act → Prop) : List Oper → Act → Prop
  | [], a => K a
  | o :: rest, a => ∃ v, YieldsIf P ops S o v a ∧ Reads1 P ops S K rest (a.put o.dst v)

def tailOk (ops : Array Oper) (t : Nat) : List Nat → Array Bool → Bool
  | [], _ => false
  | [k], listed => decide (Region.ready .any ops listed = [k]) && k == t && (Region.ready .any ops (listed.setIfInBounds k true)).isEmpty
  | k :: k2 :: l, listed => decide (Region.ready .any ops listed = [k]) && tailOk ops t (k2 :: l) (listed.setIfInBounds k true)
def headOk (ops : Array Oper) (t : Nat) (tl : List Nat) : List Nat → Array Bool → Bool
  | [], listed => tailOk ops t tl listed
  | k :: l, listed => (Region.ready .any ops listed).contains k && Region.free .any ops listed k && k != t && headOk ops t tl l (listed.setIfInBounds k true)
def mixOk (ops : Array Oper) (hd tl : List Nat) : Bool :=
  Region.noSelect ops && decide (hd.length + tl.length = ops.size) && waitsAll ops (ops.size - 1) && headOk ops (ops.size - 1) tl hd (Array.replicate ops.size false)

theorem ready_op {listed : Array Bool} {i : Nat} (h : i ∈ Region.ready .any ops listed) : ∃ o, ops[i]? = some o := let ⟨_, o, ho, _⟩ := mem_ready.1 h; ⟨o, ho⟩

theorem eff_step {t k : Nat} {o : Oper} {rest : List Oper} {listed : Array Bool} {a : Act} {w : World} {n : Nat} (ho : ops[k]? = some o) (hr : Region.ready .any ops listed = [k]) (hkt : k ≠ t → rest ≠ [])
    (h : Eff P ops Q S (o :: rest) a w) (hn : ∀ a' w', Eff P ops Q S rest a' w' → AnyT P ops Q S t n (listed.setIfInBounds k true) a' w') : AnyT P ops Q S t (n + 1) listed a w := by
  refine ⟨fun h0 => (by rw [hr] at h0; cases h0), fun i hi => ?_⟩
  rw [hr] at hi
  obtain rfl := List.mem_singleton.1 hi
  unfold wpOp
  simp only [ho]
  simp only [Eff] at h
  split
  · rename_i hw
    rw [if_pos hw] at h
    exact .inl (Oper.wp_mono (fun a' w' h' => ⟨fun hne => h'.1 (hkt hne), hn a' w' h'.2⟩) h)
  · rename_i hw
    rw [if_neg hw] at h
    exact ⟨fun hne => h.1 (hkt hne), hn _ w h.2⟩

theorem anyT_tail {t : Nat} : ∀ (tl : List Nat) (listed : Array Bool) (a : Act) (w : World), tailOk ops t tl listed = true → Eff P ops Q S (picks ops tl) a w → AnyT P ops Q S t tl.length listed a w
  | [], _, _, _, hb, _ => by simp [tailOk] at hb
  | [k], listed, a, w, hb, h => by
    simp only [tailOk, Bool.and_eq_true, decide_eq_true_eq, beq_iff_eq] at hb
    obtain ⟨o, ho⟩ := ready_op (ops := ops) (listed := listed) (i := k) (by rw [hb.1.1]; exact List.mem_singleton.2 rfl)
    have hp : picks ops [k] = [o] := by simp [picks, ho]
    rw [hp] at h
    exact eff_step ho hb.1.1 (fun hne => absurd hb.1.2 hne) h (fun a' w' h' => ⟨by simpa using hb.2, h'⟩)
  | k :: k2 :: tl, listed, a, w, hb, h => by
    simp only [tailOk, Bool.and_eq_true, decide_eq_true_eq] at hb
    obtain ⟨o, ho⟩ := ready_op (ops := ops) (listed := listed) (i := k) (by rw [hb.1]; exact List.mem_singleton.2 rfl)
    have hp : picks ops (k :: k2 :: tl) = o :: picks ops (k2 :: tl) := by simp [picks, ho]
    rw [hp] at h
    have hr2 : Region.ready .any ops (listed.setIfInBounds k true) = [k2] := by
      have hb2 := hb.2
      cases tl with
      | nil => simp only [tailOk, Bool.and_eq_true, decide_eq_true_eq] at hb2; exact hb2.1.1
      | cons k3 tl => simp only [tailOk, Bool.and_eq_true, decide_eq_true_eq] at hb2; exact hb2.1
    obtain ⟨o2, ho2⟩ := ready_op (ops := ops) (listed := listed.setIfInBounds k true) (i := k2) (by rw [hr2]; exact List.mem_singleton.2 rfl)
    exact eff_step ho hb.1 (fun _ => by simp [picks, ho2]) h (fun a' w' h' => anyT_tail (k2 :: tl) _ a' w' hb.2 h')

theorem anyT_head {t : Nat} (tl : List Nat) (hsel : Region.noSelect ops = true) (hwt : waitsAll ops t = true) (hQ : ∀ c a d v w, Q (.panic c) (Act.put a d v) w → Q (.panic c) a w) (w : World) (hS : S w) :
    ∀ (hd : List Nat) (listed : Array Bool) (a : Act), headOk ops t tl hd listed = true → Reads1 P ops S (fun a' => Eff P ops Q S (picks ops tl) a' w) (picks ops hd) a →
      AnyT P ops Q S t (hd.length + tl.length) listed a w
  | [], listed, a, hb, h => by
    rw [List.length_nil, Nat.zero_add]
    exact anyT_tail tl listed a w hb h
  | k :: hd, listed, a, hb, h => by
    simp only [headOk, Bool.and_eq_true, bne_iff_ne] at hb
    have hr : k ∈ Region.ready .any ops listed := by simpa using hb.1.1.1
    obtain ⟨o, ho⟩ := ready_op hr
    have hp : picks ops (k :: hd) = o :: picks ops hd := by simp [picks, ho]
    rw [hp] at h
    obtain ⟨v, hy, h⟩ := h
    rw [List.length_cons, show hd.length + 1 + tl.length = (hd.length + tl.length) + 1 from by omega]
    exact anyT_first ho hsel hwt hb.1.2 (fun c a w => hQ c a _ _ w) _ listed a w (Region.free_spec ho hb.1.1.2) hr hy hS (anyT_head tl hsel hwt hQ w hS hd _ _ hb.2 h)

/-- THE LAW -/
theorem region_mix {id : Nat} {a : Act} {w : World} {l : List Oper} (S : World → Prop) (hd tl : List Nat) (hm : P.follows .mixedOrders = true) (hB : mixOk l.toArray hd tl = true)
    (hQ : ∀ c a d v w, Q (.panic c) (Act.put a d v) w → Q (.panic c) a w) (hS : S w.drew)
    (h : Reads1 P l.toArray S (fun a' => Eff P l.toArray Q S (picks l.toArray tl) a' w.drew) (picks l.toArray hd) a) : (Code.region id l.toArray true).wp P Q a w := by
  simp only [mixOk, Bool.and_eq_true, decide_eq_true_eq] at hB
  obtain ⟨⟨⟨h1, h2⟩, h4⟩, h3⟩ := hB
  refine wp_region_any hm ?_
  have := anyT_sound _ _ _ _ (anyT_head tl h1 h4 hQ w.drew hS hd _ a h3 h)
  rw [h2] at this
  exact this

/-! the steps -/
theorem rd_next {K : Act → Prop} {o : Oper} {rest : List Oper} {a : Act} (v : Value) (hw : Region.wanted o (yielded ops a.tmps) = true) (hv : ∀ w, S w → (execOp a.eval o).run P w = .ok (.value v) w)
    (h : Reads1 P ops S K rest (a.put o.dst v)) : Reads1 P ops S K (o :: rest) a := ⟨v, .inl ⟨hw, hv⟩, h⟩
theorem rd_skip {K : Act → Prop} {o : Oper} {rest : List Oper} {a : Act} (hw : Region.wanted o (yielded ops a.tmps) = false)
    (h : Reads1 P ops S K rest (a.put o.dst undef)) : Reads1 P ops S K (o :: rest) a := ⟨undef, .inr ⟨hw, rfl⟩, h⟩
theorem rd_done {K : Act → Prop} {a : Act} (h : K a) : Reads1 P ops S K [] a := h
theorem eff_next {o : Oper} {rest : List Oper} {a : Act} {w : World} (hw : Region.wanted o (yielded ops a.tmps) = true)
    (h : ∀ K : Act → World → Prop, (∀ a' w', (rest ≠ [] → S w') → Eff P ops Q S rest a' w' → K a' w') → Oper.wp P o a w K Q) : Eff P ops Q S (o :: rest) a w := by
  simp only [Eff]
  rw [if_pos hw]
  exact h _ (fun a' w' h1 h2 => ⟨h1, h2⟩)
theorem eff_done {a : Act} {w : World} (h : Q .normal a w) : Eff P ops Q S [] a w := h
end
end Go.Proofs.YtjobncfjebkcdaaDoor
