/- The walk of the reference's Put. -/
import Derived.Test.YtggffmbhpgioaaaDoorZp
import Derived.Deep.DeepCutAuto
namespace Go.Proofs.YtggffmbhpgioaaaDoor
open Go Go.RowKit Go.Shelf
set_option linter.unusedSimpArgs false

/-- the reference's entries after Put of e (which is full) in slot k -/
def rputF (D R : List En) (k : Nat) (e : En) : List En × List En :=
  let x := D.getD k en0
  let y := R.getD k en0
  if x.u && pkey e.k x then (if x.d ≤ e.d then D.set k e else D, R)
  else if y.u && pkey e.k y then (D, if y.d ≤ e.d then R.set k e else R)
  else if x.u && decide (e.d < x.d) then (D, R.set k e)
  else (D.set k e, R.set k x)
def RPutP (w : World) (P : Nat → Prop) (n : Nat) (f m : Int) (DR : List En × List En) (e : Ending) (w' : World) : Prop :=
  ∃ A B ca cb, e = .returned (.agg #[.slice A n ca, .slice B n cb, .int .i64 f, .int .i64 m]) ∧ EnS w' P A DR.1 ∧ EnS w' P B DR.2 ∧ DR.1.length = n ∧ DR.2.length = n ∧ Below w.heap.size w w'

theorem rput_cases (D R : List En) (k : Nat) (x y z : En) (hx : D[k]? = some x) (hy : R[k]? = some y) :
    (x.u = true ∧ pkey z.k x = true ∧ x.d ≤ z.d ∧ rputF D R k z = (D.set k z, R)) ∨ (x.u = true ∧ pkey z.k x = true ∧ z.d < x.d ∧ rputF D R k z = (D, R)) ∨
    ((x.u = false ∨ x.u = true ∧ pkey z.k x = false) ∧ y.u = true ∧ pkey z.k y = true ∧ y.d ≤ z.d ∧ rputF D R k z = (D, R.set k z)) ∨
    ((x.u = false ∨ x.u = true ∧ pkey z.k x = false) ∧ y.u = true ∧ pkey z.k y = true ∧ z.d < y.d ∧ rputF D R k z = (D, R)) ∨
    (x.u = true ∧ pkey z.k x = false ∧ (y.u = false ∨ y.u = true ∧ pkey z.k y = false) ∧ z.d < x.d ∧ rputF D R k z = (D, R.set k z)) ∨
    (x.u = true ∧ pkey z.k x = false ∧ (y.u = false ∨ y.u = true ∧ pkey z.k y = false) ∧ x.d ≤ z.d ∧ rputF D R k z = (D.set k z, R.set k x)) ∨
    (x.u = false ∧ (y.u = false ∨ y.u = true ∧ pkey z.k y = false) ∧ rputF D R k z = (D.set k z, R.set k x)) := by
  have e1 : D.getD k en0 = x := by rw [List.getD_eq_getElem?_getD, hx]; rfl
  have e2 : R.getD k en0 = y := by rw [List.getD_eq_getElem?_getD, hy]; rfl
  unfold rputF
  rw [e1, e2]
  simp only
  generalize x.u = xu at *
  generalize y.u = yu at *
  generalize pkey z.k x = px
  generalize pkey z.k y = py
  rcases Int.lt_or_le z.d x.d with h1 | h1
  · have h1' : ¬ x.d ≤ z.d := by omega
    rcases Int.lt_or_le z.d y.d with h2 | h2
    · have h2' : ¬ y.d ≤ z.d := by omega
      cases xu <;> cases px <;> cases yu <;> cases py <;> simp [h1, h1', h2, h2']
    · cases xu <;> cases px <;> cases yu <;> cases py <;> simp [h1, h1', h2]
  · have h1' : ¬ z.d < x.d := by omega
    rcases Int.lt_or_le z.d y.d with h2 | h2
    · have h2' : ¬ y.d ≤ z.d := by omega
      cases xu <;> cases px <;> cases yu <;> cases py <;> simp [h1, h1', h2, h2']
    · cases xu <;> cases px <;> cases yu <;> cases py <;> simp [h1, h1', h2]
/-- what the walk of Put keeps -/
structure RM (w y : World) (ta tr te qx qy : Nat) (u0 u1 u2 u3 : Value) (z x yv : En) : Prop where
  below : Below w.heap.size w y
  tb : y.heap[ta]? = some (.cells #[u0, u1, u2, u3] 46 (0, 0))
  rb : y.heap[tr]? = some (.cells #[.slice none 0 0, .slice none 0 0, .int .i64 0, .int .i64 0] 46 (0, 0))
  eb : y.heap[te]? = some (.cells #[.bool z.u, .string z.k, .int .i64 z.d, .int .i64 z.b.a, .int .i64 z.b.b, .int .i64 z.b.c, .int .i64 z.b.e] 83 (0, 0))
  xb : y.heap[qx]? = some (.cells #[.bool x.u, .string x.k, .int .i64 x.d, .int .i64 x.b.a, .int .i64 x.b.b, .int .i64 x.b.c, .int .i64 x.b.e] 83 (0, 0))
  yb : y.heap[qy]? = some (.cells #[.bool yv.u, .string yv.k, .int .i64 yv.d, .int .i64 yv.b.a, .int .i64 yv.b.b, .int .i64 yv.b.c, .int .i64 yv.b.e] 83 (0, 0))
  l1 : w.heap.size ≤ ta
  l2 : w.heap.size ≤ tr
  n1 : ta ≠ tr
  n2 : ta ≠ te
  n3 : ta ≠ qx
  n4 : ta ≠ qy
theorem blk_keep {y y' : World} {b : Nat} {o : Obj} (hb : Below y.heap.size y y') (h : y.heap[b]? = some o) : y'.heap[b]? = some o := (hb.block _ (Array.getElem?_eq_some_iff.1 h).1).trans h
section
variable {w y : World} {ta tr te qx qy : Nat} {u0 u1 u2 u3 : Value} {z x yv : En}
theorem RM.keep {y' : World} (h : RM w y ta tr te qx qy u0 u1 u2 u3 z x yv) (hb : Below y.heap.size y y') : RM w y' ta tr te qx qy u0 u1 u2 u3 z x yv :=
  ⟨h.below.trans (hb.mono h.below.size), blk_keep hb h.tb, blk_keep hb h.rb, blk_keep hb h.eb, blk_keep hb h.xb, blk_keep hb h.yb, h.l1, h.l2, h.n1, h.n2, h.n3, h.n4⟩
theorem blk_set {b i : Nat} {o : Obj} (u : Value) (h : y.heap[b]? = some o) (hn : ta ≠ b) : (y.setCell ⟨ta, i, none⟩ u).heap[b]? = some o := (Below.heap_setCell y ⟨ta, i, none⟩ u b (Ne.symm hn)).trans h
theorem RM.setA (h : RM w y ta tr te qx qy u0 u1 u2 u3 z x yv) (v : Value) : RM w (y.setCell ⟨ta, 0, none⟩ v) ta tr te qx qy v u1 u2 u3 z x yv :=
  ⟨h.below.setCell (p := ⟨ta, 0, none⟩) h.l1 v, (heap_set_blk (i := 0) h.tb v).trans (by simp), blk_set v h.rb h.n1, blk_set v h.eb h.n2, blk_set v h.xb h.n3, blk_set v h.yb h.n4, h.l1, h.l2, h.n1, h.n2, h.n3, h.n4⟩
theorem RM.setB (h : RM w y ta tr te qx qy u0 u1 u2 u3 z x yv) (v : Value) : RM w (y.setCell ⟨ta, 1, none⟩ v) ta tr te qx qy u0 v u2 u3 z x yv :=
  ⟨h.below.setCell (p := ⟨ta, 1, none⟩) h.l1 v, (heap_set_blk (i := 1) h.tb v).trans (by simp), blk_set v h.rb h.n1, blk_set v h.eb h.n2, blk_set v h.xb h.n3, blk_set v h.yb h.n4, h.l1, h.l2, h.n1, h.n2, h.n3, h.n4⟩
/-- blocks that Put does not write -/
def Pp (P : Nat → Prop) (ta tr : Nat) (b : Nat) : Prop := P b ∧ b ≠ ta ∧ b ≠ tr
theorem RM.new {P : Nat → Prop} (h : RM w y ta tr te qx qy u0 u1 u2 u3 z x yv) (hP : ∀ b, w.heap.size ≤ b → P b) : ∀ b, y.heap.size ≤ b → Pp P ta tr b := by
  intro b hb
  have h1 := (Array.getElem?_eq_some_iff.1 h.tb).1
  have h2 := (Array.getElem?_eq_some_iff.1 h.rb).1
  exact ⟨hP b (Nat.le_trans h.below.size hb), by omega, by omega⟩
theorem EnS.imp {P P' : Nat → Prop} {A : Option Addr} {l : List En} (h : EnS w P A l) (hi : ∀ b, b < w.heap.size → P b → P' b) : EnS w P' A l := by
  intro hn
  obtain ⟨b, o, hA, hP, hlt, hc⟩ := h hn
  exact ⟨b, o, hA, hi b hlt hP, hlt, hc⟩
theorem RM.old {P : Nat → Prop} {A : Option Addr} {l : List En} (h : RM w y ta tr te qx qy u0 u1 u2 u3 z x yv) (ha : EnS w P A l) : EnS y (Pp P ta tr) A l :=
  (ha.imp (fun b hb hp => ⟨hp, by have := h.l1; omega, by have := h.l2; omega⟩)).below h.below
theorem EnS.set {P : Nat → Prop} {A : Option Addr} {l : List En} (h : EnS y (Pp P ta tr) A l) (i : Nat) (v : Value) : EnS (y.setCell ⟨ta, i, none⟩ v) (Pp P ta tr) A l :=
  h.keep (fun b hb _ => Below.heap_setCell _ _ _ _ hb.2.1) (by simp [World.setCell])
/-- the end of Put -/
theorem RM.fin (h : RM w y ta tr te qx qy u0 u1 u2 u3 z x yv) : (storeT y tr u0 u1 u2 u3).heap[tr]? = some (.cells #[u0, u1, u2, u3] 46 (0, 0)) ∧ Below w.heap.size w (storeT y tr u0 u1 u2 u3) ∧
    ∀ (P : Nat → Prop) (A : Option Addr) (l : List En), EnS y (Pp P ta tr) A l → EnS (storeT y tr u0 u1 u2 u3) P A l := by
  have g := grown_storeT y tr u0 u1 u2 u3
  refine ⟨storeT_blk h.rb u0 u1 u2 u3, h.below.grown g h.below.size (by intro k hk; injection hk with hk; rw [← hk]; exact h.l2), fun P A l ha => ?_⟩
  have h2 : EnS (storeT y tr u0 u1 u2 u3) (Pp P ta tr) A l := ha.keep (fun b hb hlt => g.block b hlt (by simp; exact hb.2.2)) g.size
  exact h2.imp (fun _ _ h => h.1)
end
theorem rm_start {w w3 : World} {te : Nat} {u0 u1 u2 u3 : Value} {z yv : En} (HB3 : Below w.heap.size w w3) (T3 : w3.heap[w.heap.size]? = some (.cells #[u0, u1, u2, u3] 46 (0, 0)))
    (S3 : w3.heap[w.heap.size + 2]? = some (.cells #[.slice none 0 0, .slice none 0 0, .int .i64 0, .int .i64 0] 46 (0, 0))) (E3 : w3.heap[te]? = some (.cells #[.bool z.u, .string z.k, .int .i64 z.d, .int .i64 z.b.a, .int .i64 z.b.b, .int .i64 z.b.c, .int .i64 z.b.e] 83 (0, 0))) (x : En) (h1 : w.heap.size + 1 + 1 < te) (h2 : te < w3.heap.size) :
    RM w ((w3.alloc (.cells #[.bool x.u, .string x.k, .int .i64 x.d, .int .i64 x.b.a, .int .i64 x.b.b, .int .i64 x.b.c, .int .i64 x.b.e] 83)).alloc (.cells #[.bool yv.u, .string yv.k, .int .i64 yv.d, .int .i64 yv.b.a, .int .i64 yv.b.b, .int .i64 yv.b.c, .int .i64 yv.b.e] 83)).drew w.heap.size (w.heap.size + 1 + 1) te w3.heap.size (w3.heap.size + 1) u0 u1 u2 u3 z x yv := by
  obtain ⟨b1, b2, b3⟩ := two_new w3 (.cells #[.bool x.u, .string x.k, .int .i64 x.d, .int .i64 x.b.a, .int .i64 x.b.b, .int .i64 x.b.c, .int .i64 x.b.e] 83) (.cells #[.bool yv.u, .string yv.k, .int .i64 yv.d, .int .i64 yv.b.a, .int .i64 yv.b.b, .int .i64 yv.b.c, .int .i64 yv.b.e] 83)
  have b0 := b1.drew
  exact ⟨HB3.trans (b0.mono HB3.size), blk_keep b0 T3, blk_keep b0 S3, blk_keep b0 E3, b2, b3, Nat.le_refl _, by omega, by omega, by omega, by omega, by omega⟩
theorem rm_start2 {w w3 : World} {te : Nat} {u0 u1 u2 u3 : Value} {z x : En} (HB3 : Below w.heap.size w w3) (T3 : w3.heap[w.heap.size]? = some (.cells #[u0, u1, u2, u3] 46 (0, 0)))
    (S3 : w3.heap[w.heap.size + 2]? = some (.cells #[.slice none 0 0, .slice none 0 0, .int .i64 0, .int .i64 0] 46 (0, 0))) (E3 : w3.heap[te]? = some (.cells #[.bool z.u, .string z.k, .int .i64 z.d, .int .i64 z.b.a, .int .i64 z.b.b, .int .i64 z.b.c, .int .i64 z.b.e] 83 (0, 0))) (yv : En) (h1 : w.heap.size + 1 + 1 < te) (h2 : te < w3.heap.size) :
    RM w ((w3.alloc (.cells #[.bool yv.u, .string yv.k, .int .i64 yv.d, .int .i64 yv.b.a, .int .i64 yv.b.b, .int .i64 yv.b.c, .int .i64 yv.b.e] 83)).alloc (.cells #[.bool x.u, .string x.k, .int .i64 x.d, .int .i64 x.b.a, .int .i64 x.b.b, .int .i64 x.b.c, .int .i64 x.b.e] 83)).drew w.heap.size (w.heap.size + 1 + 1) te (w3.heap.size + 1) w3.heap.size u0 u1 u2 u3 z x yv := by
  obtain ⟨b1, b2, b3⟩ := two_new w3 (.cells #[.bool yv.u, .string yv.k, .int .i64 yv.d, .int .i64 yv.b.a, .int .i64 yv.b.b, .int .i64 yv.b.c, .int .i64 yv.b.e] 83) (.cells #[.bool x.u, .string x.k, .int .i64 x.d, .int .i64 x.b.a, .int .i64 x.b.b, .int .i64 x.b.c, .int .i64 x.b.e] 83)
  have b0 := b1.drew
  exact ⟨HB3.trans (b0.mono HB3.size), blk_keep b0 T3, blk_keep b0 S3, blk_keep b0 E3, b3, b2, Nat.le_refl _, by omega, by omega, by omega, by omega, by omega⟩

set_option maxHeartbeats 8000000 in
set_option maxRecDepth 100000 in
theorem rput_any (w : World) (P : Nat → Prop) (hP : ∀ b, w.heap.size ≤ b → P b) (A B : Option Addr) (D R : List En) (ca cb : Nat) (f m : Int) (n0 : 0 < D.length) (h1 : D.length ≤ 4096) (hl : R.length = D.length) (ha : EnS w P A D) (hb : EnS w P B R)
    (key : ByteArray) (hks : key.size ≤ 9223372036854775807) (d a b c e : Int) :
    Calls Tryd.prog 22 #[.agg #[.slice A D.length ca, .slice B D.length cb, .int .i64 f, .int .i64 m], .string key, .int .i64 d, .agg #[.int .i64 a, .int .i64 b, .int .i64 c, .int .i64 e]] w
      (RPutP w P D.length f m (rputF D R (slotI key D.length) ⟨true, key, d, ⟨a, b, c, e⟩⟩)) := by
  have hkn : slotI key D.length < D.length := Nat.mod_lt _ n0
  have HA := Lib.hid ha
  have HB := Lib.hid hb
  have HP := Lib.hid hP
  have HL := Lib.hid hl
  have CS := Lib.hid (fun (w : World) => rslot_any w A B D.length ca D.length cb f m n0 h1 key hks)
  generalize slotI key D.length = k at *
  obtain ⟨x, hx⟩ : ∃ x, D[k]? = some x := ⟨_, List.getElem?_eq_getElem (by omega)⟩
  obtain ⟨y, hy⟩ : ∃ y, R[k]? = some y := ⟨_, List.getElem?_eq_getElem (by omega)⟩
  have HX := Lib.hid hx
  have HY := Lib.hid hy
  clear hx hy ha hb hks hl hP
  go_enter Tryd.func22, Tryd.ntmps22
  go_wp2_with fail
  have HW1 := Lib.hid (three_new w (.cells #[.slice A D.length ca, .slice B D.length cb, .int .i64 f, .int .i64 m] 46) (.cells #[.int .i64 a, .int .i64 b, .int .i64 c, .int .i64 e] 37) (.cells #[.slice none 0 0, .slice none 0 0, .int .i64 0, .int .i64 0] 46))
  generalize ((w.alloc (.cells #[.slice A D.length ca, .slice B D.length cb, .int .i64 f, .int .i64 m] 46)).alloc (.cells #[.int .i64 a, .int .i64 b, .int .i64 c, .int .i64 e] 37)).alloc (.cells #[.slice none 0 0, .slice none 0 0, .int .i64 0, .int .i64 0] 46) = w1 at *
  have c0 := cell_blk HW1.out.2.1 0
  have c1 := cell_blk HW1.out.2.1 1
  have c2 := cell_blk HW1.out.2.1 2
  have c3 := cell_blk HW1.out.2.1 3
  go_wp2_with fail
  clear c0 c1 c2 c3
  refine (CS.out _).mono ?_
  rintro e2 w2 ⟨rfl, hb⟩
  have HB2 := Lib.hid (HW1.out.1.trans (hb.mono HW1.out.1.size))
  have T2 := Lib.hid ((hb.block _ (Array.getElem?_eq_some_iff.1 HW1.out.2.1).1).trans HW1.out.2.1)
  have M2 := Lib.hid ((hb.block _ (Array.getElem?_eq_some_iff.1 HW1.out.2.2.1).1).trans HW1.out.2.2.1)
  have S2 := Lib.hid ((hb.block _ (Array.getElem?_eq_some_iff.1 HW1.out.2.2.2).1).trans HW1.out.2.2.2)
  have HS2 := Lib.hid (Nat.lt_of_lt_of_le (Array.getElem?_eq_some_iff.1 HW1.out.2.2.2).1 hb.size)
  clear hb HW1 CS
  have m0 := cell_blk M2.out 0
  have m1 := cell_blk M2.out 1
  have m2 := cell_blk M2.out 2
  have m3 := cell_blk M2.out 3
  go_wp2_with fail
  clear m0 m1 m2 m3
  have HW3 := Lib.hid (one_new w2 (.cells #[.bool true, .string key, .int .i64 d, .int .i64 a, .int .i64 b, .int .i64 c, .int .i64 e] 83))
  generalize w2.alloc (.cells #[.bool true, .string key, .int .i64 d, .int .i64 a, .int .i64 b, .int .i64 c, .int .i64 e] 83) = w3 at *
  have HB3 := Lib.hid (HB2.out.trans (HW3.out.1.mono HB2.out.size))
  have T3 := Lib.hid ((HW3.out.1.block _ (Array.getElem?_eq_some_iff.1 T2.out).1).trans T2.out)
  have S3 := Lib.hid ((HW3.out.1.block _ (Array.getElem?_eq_some_iff.1 S2.out).1).trans S2.out)
  have E3 := Lib.hid HW3.out.2
  have hbe := Lib.hid HB2.out.size
  clear HW3 T2 S2 M2
  obtain ⟨ba, oa, rfl, hlta, -⟩ := HA.out.at HX.out
  obtain ⟨bb, ob, rfl, hltb, -⟩ := HB.out.at HY.out
  obtain ⟨a0, a1, a2, a3, a4, a5, a6⟩ := (HA.out.below HB3.out).one HX.out
  obtain ⟨g0, g1, g2, g3, g4, g5, g6⟩ := (HB.out.below HB3.out).one HY.out
  have t0 := cell_blk T3.out 0
  have t1 := cell_blk T3.out 1
  have na := World.new_ne w3 _ a0
  have nb := World.new_ne w3 _ g0
  have nt := World.new_ne w3 _ t0
  have hts := (Array.getElem?_eq_some_iff.1 T3.out).1
  have hbe := hbe.out
  have hHT := Lib.hid (show w.heap.size + 1 + 1 < w2.heap.size ∧ w2.heap.size < w3.heap.size from ⟨HS2.out, (Array.getElem?_eq_some_iff.1 E3.out).1⟩)
  go_cut [11, 12] (fun s11 s12 wx => ∃ qx qy, s11 = .pointer (some ⟨qx, 0, none⟩) ∧ s12 = .pointer (some ⟨qy, 0, none⟩) ∧ RM w wx w.heap.size (w.heap.size + 1 + 1) w2.heap.size qx qy (.slice (some ⟨ba, oa, none⟩) D.length ca) (.slice (some ⟨bb, ob, none⟩) D.length cb) (.int .i64 f) (.int .i64 m) ⟨true, key, d, ⟨a, b, c, e⟩⟩ x y)
  case first =>
    have HM1 := Lib.hid (rm_start (z := ⟨true, key, d, ⟨a, b, c, e⟩⟩) (yv := y) HB3.out T3.out S3.out E3.out x hHT.out.1 hHT.out.2)
    have HM2 := Lib.hid (rm_start2 (z := ⟨true, key, d, ⟨a, b, c, e⟩⟩) (x := x) HB3.out T3.out S3.out E3.out y hHT.out.1 hHT.out.2)
    clear hts hbe
    go_region_held3 (fun x' => x'.cell? ⟨w.heap.size, 0, none⟩ = some (.slice (some ⟨ba, oa, none⟩) D.length ca) ∧ x'.cell? ⟨w.heap.size, 1, none⟩ = some (.slice (some ⟨bb, ob, none⟩) D.length cb) ∧ x'.cell? ⟨ba, oa + k * 7, none⟩ = some (.bool x.u) ∧ x'.cell? ⟨ba, oa + k * 7 + 1, none⟩ = some (.string x.k) ∧ x'.cell? ⟨ba, oa + k * 7 + 2, none⟩ = some (.int .i64 x.d) ∧ x'.cell? ⟨ba, oa + k * 7 + 3, none⟩ = some (.int .i64 x.b.a) ∧ x'.cell? ⟨ba, oa + k * 7 + 4, none⟩ = some (.int .i64 x.b.b) ∧ x'.cell? ⟨ba, oa + k * 7 + 5, none⟩ = some (.int .i64 x.b.c) ∧ x'.cell? ⟨ba, oa + k * 7 + 6, none⟩ = some (.int .i64 x.b.e) ∧ x'.cell? ⟨bb, ob + k * 7, none⟩ = some (.bool y.u) ∧ x'.cell? ⟨bb, ob + k * 7 + 1, none⟩ = some (.string y.k) ∧ x'.cell? ⟨bb, ob + k * 7 + 2, none⟩ = some (.int .i64 y.d) ∧ x'.cell? ⟨bb, ob + k * 7 + 3, none⟩ = some (.int .i64 y.b.a) ∧ x'.cell? ⟨bb, ob + k * 7 + 4, none⟩ = some (.int .i64 y.b.b) ∧ x'.cell? ⟨bb, ob + k * 7 + 5, none⟩ = some (.int .i64 y.b.c) ∧ x'.cell? ⟨bb, ob + k * 7 + 6, none⟩ = some (.int .i64 y.b.e)) (go_keep) (fail)
    · go_wp2_with fail
      go_meet
      exact ⟨_, _, rfl, rfl, HM1.out⟩
    · go_wp2_with fail
      go_meet
      exact ⟨_, _, rfl, rfl, HM2.out⟩
  case rest =>
    obtain ⟨qx, qy, rfl, rfl, hM⟩ := hcut
    have HM := Lib.hid hM
    clear hM HB3 T3 S3 E3 a0 a1 a2 a3 a4 a5 a6 g0 g1 g2 g3 g4 g5 g6 t0 t1 na nb nt hts hbe
    have i0 := cell_blk HM.out.xb 0
    have i1 := cell_blk HM.out.xb 1
    have i2 := cell_blk HM.out.xb 2
    have i3 := cell_blk HM.out.xb 3
    have i4 := cell_blk HM.out.xb 4
    have i5 := cell_blk HM.out.xb 5
    have i6 := cell_blk HM.out.xb 6
    have j0 := cell_blk HM.out.yb 0
    have j1 := cell_blk HM.out.yb 1
    have j2 := cell_blk HM.out.yb 2
    have e0 := cell_blk HM.out.eb 0
    have e1 := cell_blk HM.out.eb 1
    have e2 := cell_blk HM.out.eb 2
    have e3 := cell_blk HM.out.eb 3
    have e4 := cell_blk HM.out.eb 4
    have e5 := cell_blk HM.out.eb 5
    have e6 := cell_blk HM.out.eb 6
    have t0 := cell_blk HM.out.tb 0
    have t1 := cell_blk HM.out.tb 1
    have t2 := cell_blk HM.out.tb 2
    have t3 := cell_blk HM.out.tb 3
    have r0 := cell_blk HM.out.rb 0
    have r1 := cell_blk HM.out.rb 1
    have r2 := cell_blk HM.out.rb 2
    have r3 := cell_blk HM.out.rb 3
    have ft : ∀ o, wc.frozen? ⟨w.heap.size, o, none⟩ = false := fun o => free_blk HM.out.tb o
    have fr : ∀ o, wc.frozen? ⟨w.heap.size + 1 + 1, o, none⟩ = false := fun o => free_blk HM.out.rb o
    have hpc := rput_cases D R k x y ⟨true, key, d, ⟨a, b, c, e⟩⟩ HX.out HY.out
    simp only at hpc
    rcases hpc with ⟨hxu, hxk, hd, hp⟩ | ⟨hxu, hxk, hd, hp⟩ | ⟨hx, hyu, hyk, hd, hp⟩ | ⟨hx, hyu, hyk, hd, hp⟩ | ⟨hxu, hxk, hy, hd, hp⟩ | ⟨hxu, hxk, hy, hd, hp⟩ | ⟨hxu, hy, hp⟩
    · rw [hxu] at i0
      unfold pkey at hxk
      have HPF := Lib.hid hp
      clear hp
      go_wp2_with fail
      clear i0 i1 i2 i3 i4 i5 i6 j0 j1 j2 e0 e1 e2 e3 e4 e5 e6 t0 t1 t2 t3 r0 r1 r2 r3 ft fr
      have CW := Lib.hid (rwith_any wc (Pp P w.heap.size (w.heap.size + 1 + 1)) (HM.out.new HP.out) (some ⟨ba, oa, none⟩) D ca k ⟨true, key, d, ⟨a, b, c, e⟩⟩ h1 hkn (HM.out.old HA.out))
      unfold enV at CW
      skip
      refine CW.out.mono ?_
      rintro e9 w5 ⟨A', c', rfl, he, hb⟩
      rw [List.length_set]
      replace HM := Lib.hid (HM.out.keep hb)
      have HE := Lib.hid he
      have HO := Lib.hid (HM.out.old HB.out)
      clear he hb CW
      have e0 := cell_blk HM.out.eb 0
      have e1 := cell_blk HM.out.eb 1
      have e2 := cell_blk HM.out.eb 2
      have e3 := cell_blk HM.out.eb 3
      have e4 := cell_blk HM.out.eb 4
      have e5 := cell_blk HM.out.eb 5
      have e6 := cell_blk HM.out.eb 6
      have t0 := cell_blk HM.out.tb 0
      have t1 := cell_blk HM.out.tb 1
      have t2 := cell_blk HM.out.tb 2
      have t3 := cell_blk HM.out.tb 3
      have r0 := cell_blk HM.out.rb 0
      have r1 := cell_blk HM.out.rb 1
      have r2 := cell_blk HM.out.rb 2
      have r3 := cell_blk HM.out.rb 3
      have ft : ∀ o, w5.frozen? ⟨w.heap.size, o, none⟩ = false := fun o => free_blk HM.out.tb o
      have fr : ∀ o, w5.frozen? ⟨w.heap.size + 1 + 1, o, none⟩ = false := fun o => free_blk HM.out.rb o
      go_wp2_with fail
      clear e0 e1 e2 e3 e4 e5 e6 t0 t1 t2 t3 r0 r1 r2 r3 ft fr
      replace HM := Lib.hid (HM.out.setA (.slice A' D.length c'))
      replace HE := Lib.hid (HE.out.set 0 (.slice A' D.length c'))
      replace HO := Lib.hid (HO.out.set 0 (.slice A' D.length c'))
      have HF := Lib.hid HM.out.fin
      have HEA := Lib.hid (HF.out.2.2 P _ _ HE.out)
      have HEB := Lib.hid (HF.out.2.2 P _ _ HO.out)
      unfold storeT at HF HEA HEB
      clear HM
      generalize (((((w5.setCell ⟨w.heap.size, 0, none⟩ (.slice A' D.length c')).setCell ⟨w.heap.size + 1 + 1, 0, none⟩ (.slice A' D.length c')).setCell ⟨w.heap.size + 1 + 1, 1, none⟩ (.slice (some ⟨bb, ob, none⟩) D.length cb)).setCell ⟨w.heap.size + 1 + 1, 2, none⟩ (.int .i64 f)).setCell ⟨w.heap.size + 1 + 1, 3, none⟩ (.int .i64 m)) = w6 at *
      have k0 := cell_blk HF.out.1 0
      have k1 := cell_blk HF.out.1 1
      have k2 := cell_blk HF.out.1 2
      have k3 := cell_blk HF.out.1 3
      refine bodyPost_ret (v := .agg #[.slice A' D.length c', .slice (some ⟨bb, ob, none⟩) D.length cb, .int .i64 f, .int .i64 m]) (by simp [results, Tryd.results22, go_sem, k0, k1, k2, k3]) rfl ?_
      rw [HPF.out]
      exact ⟨_, _, _, _, rfl, HEA.out, HEB.out, by simp, by simp [HL.out], HF.out.2.1⟩
    · rw [hxu] at i0
      unfold pkey at hxk
      have HPF := Lib.hid hp
      clear hp
      go_wp2_with fail
      clear i0 i1 i2 i3 i4 i5 i6 j0 j1 j2 e0 e1 e2 e3 e4 e5 e6 t0 t1 t2 t3 r0 r1 r2 r3 ft fr
      have HF := Lib.hid HM.out.fin
      have HEA := Lib.hid (HF.out.2.2 P _ _ (HM.out.old HA.out))
      have HEB := Lib.hid (HF.out.2.2 P _ _ (HM.out.old HB.out))
      unfold storeT at HF HEA HEB
      clear HM
      generalize ((((wc.setCell ⟨w.heap.size + 1 + 1, 0, none⟩ (.slice (some ⟨ba, oa, none⟩) D.length ca)).setCell ⟨w.heap.size + 1 + 1, 1, none⟩ (.slice (some ⟨bb, ob, none⟩) D.length cb)).setCell ⟨w.heap.size + 1 + 1, 2, none⟩ (.int .i64 f)).setCell ⟨w.heap.size + 1 + 1, 3, none⟩ (.int .i64 m)) = w6 at *
      have k0 := cell_blk HF.out.1 0
      have k1 := cell_blk HF.out.1 1
      have k2 := cell_blk HF.out.1 2
      have k3 := cell_blk HF.out.1 3
      refine bodyPost_ret (v := .agg #[.slice (some ⟨ba, oa, none⟩) D.length ca, .slice (some ⟨bb, ob, none⟩) D.length cb, .int .i64 f, .int .i64 m]) (by simp [results, Tryd.results22, go_sem, k0, k1, k2, k3]) rfl ?_
      rw [HPF.out]
      exact ⟨_, _, _, _, rfl, HEA.out, HEB.out, by simp, by simp [HL.out], HF.out.2.1⟩
    · rw [hyu] at j0
      unfold pkey at hyk
      have HPF := Lib.hid hp
      clear hp
      rcases hx with hxu | ⟨hxu, hxk⟩
      · rw [hxu] at i0
        go_wp2_with fail
        clear i0 i1 i2 i3 i4 i5 i6 j0 j1 j2 e0 e1 e2 e3 e4 e5 e6 t0 t1 t2 t3 r0 r1 r2 r3 ft fr
        have CW := Lib.hid (rwith_any wc (Pp P w.heap.size (w.heap.size + 1 + 1)) (HM.out.new HP.out) (some ⟨bb, ob, none⟩) R cb k ⟨true, key, d, ⟨a, b, c, e⟩⟩ (by rw [HL.out]; exact h1) (by rw [HL.out]; exact hkn) (HM.out.old HB.out))
        unfold enV at CW
        rw [HL.out] at CW
        refine CW.out.mono ?_
        rintro e9 w5 ⟨A', c', rfl, he, hb⟩
        rw [List.length_set, HL.out]
        replace HM := Lib.hid (HM.out.keep hb)
        have HE := Lib.hid he
        have HO := Lib.hid (HM.out.old HA.out)
        clear he hb CW
        have e0 := cell_blk HM.out.eb 0
        have e1 := cell_blk HM.out.eb 1
        have e2 := cell_blk HM.out.eb 2
        have e3 := cell_blk HM.out.eb 3
        have e4 := cell_blk HM.out.eb 4
        have e5 := cell_blk HM.out.eb 5
        have e6 := cell_blk HM.out.eb 6
        have t0 := cell_blk HM.out.tb 0
        have t1 := cell_blk HM.out.tb 1
        have t2 := cell_blk HM.out.tb 2
        have t3 := cell_blk HM.out.tb 3
        have r0 := cell_blk HM.out.rb 0
        have r1 := cell_blk HM.out.rb 1
        have r2 := cell_blk HM.out.rb 2
        have r3 := cell_blk HM.out.rb 3
        have ft : ∀ o, w5.frozen? ⟨w.heap.size, o, none⟩ = false := fun o => free_blk HM.out.tb o
        have fr : ∀ o, w5.frozen? ⟨w.heap.size + 1 + 1, o, none⟩ = false := fun o => free_blk HM.out.rb o
        go_wp2_with fail
        clear e0 e1 e2 e3 e4 e5 e6 t0 t1 t2 t3 r0 r1 r2 r3 ft fr
        replace HM := Lib.hid (HM.out.setB (.slice A' D.length c'))
        replace HE := Lib.hid (HE.out.set 1 (.slice A' D.length c'))
        replace HO := Lib.hid (HO.out.set 1 (.slice A' D.length c'))
        have HF := Lib.hid HM.out.fin
        have HEA := Lib.hid (HF.out.2.2 P _ _ HO.out)
        have HEB := Lib.hid (HF.out.2.2 P _ _ HE.out)
        unfold storeT at HF HEA HEB
        clear HM
        generalize (((((w5.setCell ⟨w.heap.size, 1, none⟩ (.slice A' D.length c')).setCell ⟨w.heap.size + 1 + 1, 0, none⟩ (.slice (some ⟨ba, oa, none⟩) D.length ca)).setCell ⟨w.heap.size + 1 + 1, 1, none⟩ (.slice A' D.length c')).setCell ⟨w.heap.size + 1 + 1, 2, none⟩ (.int .i64 f)).setCell ⟨w.heap.size + 1 + 1, 3, none⟩ (.int .i64 m)) = w6 at *
        have k0 := cell_blk HF.out.1 0
        have k1 := cell_blk HF.out.1 1
        have k2 := cell_blk HF.out.1 2
        have k3 := cell_blk HF.out.1 3
        refine bodyPost_ret (v := .agg #[.slice (some ⟨ba, oa, none⟩) D.length ca, .slice A' D.length c', .int .i64 f, .int .i64 m]) (by simp [results, Tryd.results22, go_sem, k0, k1, k2, k3]) rfl ?_
        rw [HPF.out]
        exact ⟨_, _, _, _, rfl, HEA.out, HEB.out, by simp, by simp [HL.out], HF.out.2.1⟩
      · rw [hxu] at i0
        unfold pkey at hxk
        go_wp2_with fail
        clear i0 i1 i2 i3 i4 i5 i6 j0 j1 j2 e0 e1 e2 e3 e4 e5 e6 t0 t1 t2 t3 r0 r1 r2 r3 ft fr
        have CW := Lib.hid (rwith_any wc (Pp P w.heap.size (w.heap.size + 1 + 1)) (HM.out.new HP.out) (some ⟨bb, ob, none⟩) R cb k ⟨true, key, d, ⟨a, b, c, e⟩⟩ (by rw [HL.out]; exact h1) (by rw [HL.out]; exact hkn) (HM.out.old HB.out))
        unfold enV at CW
        rw [HL.out] at CW
        refine CW.out.mono ?_
        rintro e9 w5 ⟨A', c', rfl, he, hb⟩
        rw [List.length_set, HL.out]
        replace HM := Lib.hid (HM.out.keep hb)
        have HE := Lib.hid he
        have HO := Lib.hid (HM.out.old HA.out)
        clear he hb CW
        have e0 := cell_blk HM.out.eb 0
        have e1 := cell_blk HM.out.eb 1
        have e2 := cell_blk HM.out.eb 2
        have e3 := cell_blk HM.out.eb 3
        have e4 := cell_blk HM.out.eb 4
        have e5 := cell_blk HM.out.eb 5
        have e6 := cell_blk HM.out.eb 6
        have t0 := cell_blk HM.out.tb 0
        have t1 := cell_blk HM.out.tb 1
        have t2 := cell_blk HM.out.tb 2
        have t3 := cell_blk HM.out.tb 3
        have r0 := cell_blk HM.out.rb 0
        have r1 := cell_blk HM.out.rb 1
        have r2 := cell_blk HM.out.rb 2
        have r3 := cell_blk HM.out.rb 3
        have ft : ∀ o, w5.frozen? ⟨w.heap.size, o, none⟩ = false := fun o => free_blk HM.out.tb o
        have fr : ∀ o, w5.frozen? ⟨w.heap.size + 1 + 1, o, none⟩ = false := fun o => free_blk HM.out.rb o
        go_wp2_with fail
        clear e0 e1 e2 e3 e4 e5 e6 t0 t1 t2 t3 r0 r1 r2 r3 ft fr
        replace HM := Lib.hid (HM.out.setB (.slice A' D.length c'))
        replace HE := Lib.hid (HE.out.set 1 (.slice A' D.length c'))
        replace HO := Lib.hid (HO.out.set 1 (.slice A' D.length c'))
        have HF := Lib.hid HM.out.fin
        have HEA := Lib.hid (HF.out.2.2 P _ _ HO.out)
        have HEB := Lib.hid (HF.out.2.2 P _ _ HE.out)
        unfold storeT at HF HEA HEB
        clear HM
        generalize (((((w5.setCell ⟨w.heap.size, 1, none⟩ (.slice A' D.length c')).setCell ⟨w.heap.size + 1 + 1, 0, none⟩ (.slice (some ⟨ba, oa, none⟩) D.length ca)).setCell ⟨w.heap.size + 1 + 1, 1, none⟩ (.slice A' D.length c')).setCell ⟨w.heap.size + 1 + 1, 2, none⟩ (.int .i64 f)).setCell ⟨w.heap.size + 1 + 1, 3, none⟩ (.int .i64 m)) = w6 at *
        have k0 := cell_blk HF.out.1 0
        have k1 := cell_blk HF.out.1 1
        have k2 := cell_blk HF.out.1 2
        have k3 := cell_blk HF.out.1 3
        refine bodyPost_ret (v := .agg #[.slice (some ⟨ba, oa, none⟩) D.length ca, .slice A' D.length c', .int .i64 f, .int .i64 m]) (by simp [results, Tryd.results22, go_sem, k0, k1, k2, k3]) rfl ?_
        rw [HPF.out]
        exact ⟨_, _, _, _, rfl, HEA.out, HEB.out, by simp, by simp [HL.out], HF.out.2.1⟩
    · rw [hyu] at j0
      unfold pkey at hyk
      have HPF := Lib.hid hp
      clear hp
      rcases hx with hxu | ⟨hxu, hxk⟩
      · rw [hxu] at i0
        go_wp2_with fail
        clear i0 i1 i2 i3 i4 i5 i6 j0 j1 j2 e0 e1 e2 e3 e4 e5 e6 t0 t1 t2 t3 r0 r1 r2 r3 ft fr
        have HF := Lib.hid HM.out.fin
        have HEA := Lib.hid (HF.out.2.2 P _ _ (HM.out.old HA.out))
        have HEB := Lib.hid (HF.out.2.2 P _ _ (HM.out.old HB.out))
        unfold storeT at HF HEA HEB
        clear HM
        generalize ((((wc.setCell ⟨w.heap.size + 1 + 1, 0, none⟩ (.slice (some ⟨ba, oa, none⟩) D.length ca)).setCell ⟨w.heap.size + 1 + 1, 1, none⟩ (.slice (some ⟨bb, ob, none⟩) D.length cb)).setCell ⟨w.heap.size + 1 + 1, 2, none⟩ (.int .i64 f)).setCell ⟨w.heap.size + 1 + 1, 3, none⟩ (.int .i64 m)) = w6 at *
        have k0 := cell_blk HF.out.1 0
        have k1 := cell_blk HF.out.1 1
        have k2 := cell_blk HF.out.1 2
        have k3 := cell_blk HF.out.1 3
        refine bodyPost_ret (v := .agg #[.slice (some ⟨ba, oa, none⟩) D.length ca, .slice (some ⟨bb, ob, none⟩) D.length cb, .int .i64 f, .int .i64 m]) (by simp [results, Tryd.results22, go_sem, k0, k1, k2, k3]) rfl ?_
        rw [HPF.out]
        exact ⟨_, _, _, _, rfl, HEA.out, HEB.out, by simp, by simp [HL.out], HF.out.2.1⟩
      · rw [hxu] at i0
        unfold pkey at hxk
        go_wp2_with fail
        clear i0 i1 i2 i3 i4 i5 i6 j0 j1 j2 e0 e1 e2 e3 e4 e5 e6 t0 t1 t2 t3 r0 r1 r2 r3 ft fr
        have HF := Lib.hid HM.out.fin
        have HEA := Lib.hid (HF.out.2.2 P _ _ (HM.out.old HA.out))
        have HEB := Lib.hid (HF.out.2.2 P _ _ (HM.out.old HB.out))
        unfold storeT at HF HEA HEB
        clear HM
        generalize ((((wc.setCell ⟨w.heap.size + 1 + 1, 0, none⟩ (.slice (some ⟨ba, oa, none⟩) D.length ca)).setCell ⟨w.heap.size + 1 + 1, 1, none⟩ (.slice (some ⟨bb, ob, none⟩) D.length cb)).setCell ⟨w.heap.size + 1 + 1, 2, none⟩ (.int .i64 f)).setCell ⟨w.heap.size + 1 + 1, 3, none⟩ (.int .i64 m)) = w6 at *
        have k0 := cell_blk HF.out.1 0
        have k1 := cell_blk HF.out.1 1
        have k2 := cell_blk HF.out.1 2
        have k3 := cell_blk HF.out.1 3
        refine bodyPost_ret (v := .agg #[.slice (some ⟨ba, oa, none⟩) D.length ca, .slice (some ⟨bb, ob, none⟩) D.length cb, .int .i64 f, .int .i64 m]) (by simp [results, Tryd.results22, go_sem, k0, k1, k2, k3]) rfl ?_
        rw [HPF.out]
        exact ⟨_, _, _, _, rfl, HEA.out, HEB.out, by simp, by simp [HL.out], HF.out.2.1⟩
    · rw [hxu] at i0
      unfold pkey at hxk
      have HPF := Lib.hid hp
      clear hp
      rcases hy with hyu | ⟨hyu, hyk⟩
      · rw [hyu] at j0
        go_wp2_with fail
        clear i0 i1 i2 i3 i4 i5 i6 j0 j1 j2 e0 e1 e2 e3 e4 e5 e6 t0 t1 t2 t3 r0 r1 r2 r3 ft fr
        have CW := Lib.hid (rwith_any wc (Pp P w.heap.size (w.heap.size + 1 + 1)) (HM.out.new HP.out) (some ⟨bb, ob, none⟩) R cb k ⟨true, key, d, ⟨a, b, c, e⟩⟩ (by rw [HL.out]; exact h1) (by rw [HL.out]; exact hkn) (HM.out.old HB.out))
        unfold enV at CW
        rw [HL.out] at CW
        refine CW.out.mono ?_
        rintro e9 w5 ⟨A', c', rfl, he, hb⟩
        rw [List.length_set, HL.out]
        replace HM := Lib.hid (HM.out.keep hb)
        have HE := Lib.hid he
        have HO := Lib.hid (HM.out.old HA.out)
        clear he hb CW
        have e0 := cell_blk HM.out.eb 0
        have e1 := cell_blk HM.out.eb 1
        have e2 := cell_blk HM.out.eb 2
        have e3 := cell_blk HM.out.eb 3
        have e4 := cell_blk HM.out.eb 4
        have e5 := cell_blk HM.out.eb 5
        have e6 := cell_blk HM.out.eb 6
        have t0 := cell_blk HM.out.tb 0
        have t1 := cell_blk HM.out.tb 1
        have t2 := cell_blk HM.out.tb 2
        have t3 := cell_blk HM.out.tb 3
        have r0 := cell_blk HM.out.rb 0
        have r1 := cell_blk HM.out.rb 1
        have r2 := cell_blk HM.out.rb 2
        have r3 := cell_blk HM.out.rb 3
        have ft : ∀ o, w5.frozen? ⟨w.heap.size, o, none⟩ = false := fun o => free_blk HM.out.tb o
        have fr : ∀ o, w5.frozen? ⟨w.heap.size + 1 + 1, o, none⟩ = false := fun o => free_blk HM.out.rb o
        go_wp2_with fail
        clear e0 e1 e2 e3 e4 e5 e6 t0 t1 t2 t3 r0 r1 r2 r3 ft fr
        replace HM := Lib.hid (HM.out.setB (.slice A' D.length c'))
        replace HE := Lib.hid (HE.out.set 1 (.slice A' D.length c'))
        replace HO := Lib.hid (HO.out.set 1 (.slice A' D.length c'))
        have HF := Lib.hid HM.out.fin
        have HEA := Lib.hid (HF.out.2.2 P _ _ HO.out)
        have HEB := Lib.hid (HF.out.2.2 P _ _ HE.out)
        unfold storeT at HF HEA HEB
        clear HM
        generalize (((((w5.setCell ⟨w.heap.size, 1, none⟩ (.slice A' D.length c')).setCell ⟨w.heap.size + 1 + 1, 0, none⟩ (.slice (some ⟨ba, oa, none⟩) D.length ca)).setCell ⟨w.heap.size + 1 + 1, 1, none⟩ (.slice A' D.length c')).setCell ⟨w.heap.size + 1 + 1, 2, none⟩ (.int .i64 f)).setCell ⟨w.heap.size + 1 + 1, 3, none⟩ (.int .i64 m)) = w6 at *
        have k0 := cell_blk HF.out.1 0
        have k1 := cell_blk HF.out.1 1
        have k2 := cell_blk HF.out.1 2
        have k3 := cell_blk HF.out.1 3
        refine bodyPost_ret (v := .agg #[.slice (some ⟨ba, oa, none⟩) D.length ca, .slice A' D.length c', .int .i64 f, .int .i64 m]) (by simp [results, Tryd.results22, go_sem, k0, k1, k2, k3]) rfl ?_
        rw [HPF.out]
        exact ⟨_, _, _, _, rfl, HEA.out, HEB.out, by simp, by simp [HL.out], HF.out.2.1⟩
      · rw [hyu] at j0
        unfold pkey at hyk
        go_wp2_with fail
        clear i0 i1 i2 i3 i4 i5 i6 j0 j1 j2 e0 e1 e2 e3 e4 e5 e6 t0 t1 t2 t3 r0 r1 r2 r3 ft fr
        have CW := Lib.hid (rwith_any wc (Pp P w.heap.size (w.heap.size + 1 + 1)) (HM.out.new HP.out) (some ⟨bb, ob, none⟩) R cb k ⟨true, key, d, ⟨a, b, c, e⟩⟩ (by rw [HL.out]; exact h1) (by rw [HL.out]; exact hkn) (HM.out.old HB.out))
        unfold enV at CW
        rw [HL.out] at CW
        refine CW.out.mono ?_
        rintro e9 w5 ⟨A', c', rfl, he, hb⟩
        rw [List.length_set, HL.out]
        replace HM := Lib.hid (HM.out.keep hb)
        have HE := Lib.hid he
        have HO := Lib.hid (HM.out.old HA.out)
        clear he hb CW
        have e0 := cell_blk HM.out.eb 0
        have e1 := cell_blk HM.out.eb 1
        have e2 := cell_blk HM.out.eb 2
        have e3 := cell_blk HM.out.eb 3
        have e4 := cell_blk HM.out.eb 4
        have e5 := cell_blk HM.out.eb 5
        have e6 := cell_blk HM.out.eb 6
        have t0 := cell_blk HM.out.tb 0
        have t1 := cell_blk HM.out.tb 1
        have t2 := cell_blk HM.out.tb 2
        have t3 := cell_blk HM.out.tb 3
        have r0 := cell_blk HM.out.rb 0
        have r1 := cell_blk HM.out.rb 1
        have r2 := cell_blk HM.out.rb 2
        have r3 := cell_blk HM.out.rb 3
        have ft : ∀ o, w5.frozen? ⟨w.heap.size, o, none⟩ = false := fun o => free_blk HM.out.tb o
        have fr : ∀ o, w5.frozen? ⟨w.heap.size + 1 + 1, o, none⟩ = false := fun o => free_blk HM.out.rb o
        go_wp2_with fail
        clear e0 e1 e2 e3 e4 e5 e6 t0 t1 t2 t3 r0 r1 r2 r3 ft fr
        replace HM := Lib.hid (HM.out.setB (.slice A' D.length c'))
        replace HE := Lib.hid (HE.out.set 1 (.slice A' D.length c'))
        replace HO := Lib.hid (HO.out.set 1 (.slice A' D.length c'))
        have HF := Lib.hid HM.out.fin
        have HEA := Lib.hid (HF.out.2.2 P _ _ HO.out)
        have HEB := Lib.hid (HF.out.2.2 P _ _ HE.out)
        unfold storeT at HF HEA HEB
        clear HM
        generalize (((((w5.setCell ⟨w.heap.size, 1, none⟩ (.slice A' D.length c')).setCell ⟨w.heap.size + 1 + 1, 0, none⟩ (.slice (some ⟨ba, oa, none⟩) D.length ca)).setCell ⟨w.heap.size + 1 + 1, 1, none⟩ (.slice A' D.length c')).setCell ⟨w.heap.size + 1 + 1, 2, none⟩ (.int .i64 f)).setCell ⟨w.heap.size + 1 + 1, 3, none⟩ (.int .i64 m)) = w6 at *
        have k0 := cell_blk HF.out.1 0
        have k1 := cell_blk HF.out.1 1
        have k2 := cell_blk HF.out.1 2
        have k3 := cell_blk HF.out.1 3
        refine bodyPost_ret (v := .agg #[.slice (some ⟨ba, oa, none⟩) D.length ca, .slice A' D.length c', .int .i64 f, .int .i64 m]) (by simp [results, Tryd.results22, go_sem, k0, k1, k2, k3]) rfl ?_
        rw [HPF.out]
        exact ⟨_, _, _, _, rfl, HEA.out, HEB.out, by simp, by simp [HL.out], HF.out.2.1⟩
    · rw [hxu] at i0
      unfold pkey at hxk
      have HPF := Lib.hid hp
      clear hp
      rcases hy with hyu | ⟨hyu, hyk⟩
      · rw [hyu] at j0
        go_wp2_with fail
        clear i0 i1 i2 i3 i4 i5 i6 j0 j1 j2 e0 e1 e2 e3 e4 e5 e6 t0 t1 t2 t3 r0 r1 r2 r3 ft fr
        have CW := Lib.hid (rwith_any wc (Pp P w.heap.size (w.heap.size + 1 + 1)) (HM.out.new HP.out) (some ⟨bb, ob, none⟩) R cb k x (by rw [HL.out]; exact h1) (by rw [HL.out]; exact hkn) (HM.out.old HB.out))
        unfold enV at CW
        rw [HL.out] at CW
        rw [hxu] at CW
        refine CW.out.mono ?_
        rintro e9 w5 ⟨A', c', rfl, he, hb⟩
        rw [List.length_set, HL.out]
        replace HM := Lib.hid (HM.out.keep hb)
        have HE := Lib.hid he
        have HO := Lib.hid (HM.out.old HA.out)
        clear he hb CW
        have e0 := cell_blk HM.out.eb 0
        have e1 := cell_blk HM.out.eb 1
        have e2 := cell_blk HM.out.eb 2
        have e3 := cell_blk HM.out.eb 3
        have e4 := cell_blk HM.out.eb 4
        have e5 := cell_blk HM.out.eb 5
        have e6 := cell_blk HM.out.eb 6
        have t0 := cell_blk HM.out.tb 0
        have t1 := cell_blk HM.out.tb 1
        have t2 := cell_blk HM.out.tb 2
        have t3 := cell_blk HM.out.tb 3
        have r0 := cell_blk HM.out.rb 0
        have r1 := cell_blk HM.out.rb 1
        have r2 := cell_blk HM.out.rb 2
        have r3 := cell_blk HM.out.rb 3
        have ft : ∀ o, w5.frozen? ⟨w.heap.size, o, none⟩ = false := fun o => free_blk HM.out.tb o
        have fr : ∀ o, w5.frozen? ⟨w.heap.size + 1 + 1, o, none⟩ = false := fun o => free_blk HM.out.rb o
        have hq1 : w2.heap.size ≠ w.heap.size := HM.out.n2.symm
        have hq2 : w.heap.size ≠ w2.heap.size := HM.out.n2
        go_wp2_with fail
        clear e0 e1 e2 e3 e4 e5 e6 t0 t1 t2 t3 r0 r1 r2 r3 ft fr hq1 hq2
        replace HM := Lib.hid (HM.out.setB (.slice A' D.length c'))
        replace HE := Lib.hid (HE.out.set 1 (.slice A' D.length c'))
        replace HO := Lib.hid (HO.out.set 1 (.slice A' D.length c'))
        generalize w5.setCell ⟨w.heap.size, 1, none⟩ (.slice A' D.length c') = w7 at *
        have CV := Lib.hid (rwith_any w7 (Pp P w.heap.size (w.heap.size + 1 + 1)) (HM.out.new HP.out) (some ⟨ba, oa, none⟩) D ca k ⟨true, key, d, ⟨a, b, c, e⟩⟩ h1 hkn HO.out)
        unfold enV at CV
        refine CV.out.mono ?_
        rintro e9 w8 ⟨A2, c2, rfl, he, hb⟩
        rw [List.length_set]
        replace HM := Lib.hid (HM.out.keep hb)
        replace HE := Lib.hid (HE.out.below hb)
        have HE2 := Lib.hid he
        clear he hb CV
        have e0 := cell_blk HM.out.eb 0
        have e1 := cell_blk HM.out.eb 1
        have e2 := cell_blk HM.out.eb 2
        have e3 := cell_blk HM.out.eb 3
        have e4 := cell_blk HM.out.eb 4
        have e5 := cell_blk HM.out.eb 5
        have e6 := cell_blk HM.out.eb 6
        have t0 := cell_blk HM.out.tb 0
        have t1 := cell_blk HM.out.tb 1
        have t2 := cell_blk HM.out.tb 2
        have t3 := cell_blk HM.out.tb 3
        have r0 := cell_blk HM.out.rb 0
        have r1 := cell_blk HM.out.rb 1
        have r2 := cell_blk HM.out.rb 2
        have r3 := cell_blk HM.out.rb 3
        have ft : ∀ o, w8.frozen? ⟨w.heap.size, o, none⟩ = false := fun o => free_blk HM.out.tb o
        have fr : ∀ o, w8.frozen? ⟨w.heap.size + 1 + 1, o, none⟩ = false := fun o => free_blk HM.out.rb o
        go_wp2_with fail
        clear e0 e1 e2 e3 e4 e5 e6 t0 t1 t2 t3 r0 r1 r2 r3 ft fr
        replace HM := Lib.hid (HM.out.setA (.slice A2 D.length c2))
        replace HE := Lib.hid (HE.out.set 0 (.slice A2 D.length c2))
        replace HE2 := Lib.hid (HE2.out.set 0 (.slice A2 D.length c2))
        have HF := Lib.hid HM.out.fin
        have HEA := Lib.hid (HF.out.2.2 P _ _ HE2.out)
        have HEB := Lib.hid (HF.out.2.2 P _ _ HE.out)
        unfold storeT at HF HEA HEB
        clear HM
        generalize (((((w8.setCell ⟨w.heap.size, 0, none⟩ (.slice A2 D.length c2)).setCell ⟨w.heap.size + 1 + 1, 0, none⟩ (.slice A2 D.length c2)).setCell ⟨w.heap.size + 1 + 1, 1, none⟩ (.slice A' D.length c')).setCell ⟨w.heap.size + 1 + 1, 2, none⟩ (.int .i64 f)).setCell ⟨w.heap.size + 1 + 1, 3, none⟩ (.int .i64 m)) = w6 at *
        have k0 := cell_blk HF.out.1 0
        have k1 := cell_blk HF.out.1 1
        have k2 := cell_blk HF.out.1 2
        have k3 := cell_blk HF.out.1 3
        refine bodyPost_ret (v := .agg #[.slice A2 D.length c2, .slice A' D.length c', .int .i64 f, .int .i64 m]) (by simp [results, Tryd.results22, go_sem, k0, k1, k2, k3]) rfl ?_
        rw [HPF.out]
        exact ⟨_, _, _, _, rfl, HEA.out, HEB.out, by simp, by simp [HL.out], HF.out.2.1⟩
      · rw [hyu] at j0
        unfold pkey at hyk
        go_wp2_with fail
        clear i0 i1 i2 i3 i4 i5 i6 j0 j1 j2 e0 e1 e2 e3 e4 e5 e6 t0 t1 t2 t3 r0 r1 r2 r3 ft fr
        have CW := Lib.hid (rwith_any wc (Pp P w.heap.size (w.heap.size + 1 + 1)) (HM.out.new HP.out) (some ⟨bb, ob, none⟩) R cb k x (by rw [HL.out]; exact h1) (by rw [HL.out]; exact hkn) (HM.out.old HB.out))
        unfold enV at CW
        rw [HL.out] at CW
        rw [hxu] at CW
        refine CW.out.mono ?_
        rintro e9 w5 ⟨A', c', rfl, he, hb⟩
        rw [List.length_set, HL.out]
        replace HM := Lib.hid (HM.out.keep hb)
        have HE := Lib.hid he
        have HO := Lib.hid (HM.out.old HA.out)
        clear he hb CW
        have e0 := cell_blk HM.out.eb 0
        have e1 := cell_blk HM.out.eb 1
        have e2 := cell_blk HM.out.eb 2
        have e3 := cell_blk HM.out.eb 3
        have e4 := cell_blk HM.out.eb 4
        have e5 := cell_blk HM.out.eb 5
        have e6 := cell_blk HM.out.eb 6
        have t0 := cell_blk HM.out.tb 0
        have t1 := cell_blk HM.out.tb 1
        have t2 := cell_blk HM.out.tb 2
        have t3 := cell_blk HM.out.tb 3
        have r0 := cell_blk HM.out.rb 0
        have r1 := cell_blk HM.out.rb 1
        have r2 := cell_blk HM.out.rb 2
        have r3 := cell_blk HM.out.rb 3
        have ft : ∀ o, w5.frozen? ⟨w.heap.size, o, none⟩ = false := fun o => free_blk HM.out.tb o
        have fr : ∀ o, w5.frozen? ⟨w.heap.size + 1 + 1, o, none⟩ = false := fun o => free_blk HM.out.rb o
        have hq1 : w2.heap.size ≠ w.heap.size := HM.out.n2.symm
        have hq2 : w.heap.size ≠ w2.heap.size := HM.out.n2
        go_wp2_with fail
        clear e0 e1 e2 e3 e4 e5 e6 t0 t1 t2 t3 r0 r1 r2 r3 ft fr hq1 hq2
        replace HM := Lib.hid (HM.out.setB (.slice A' D.length c'))
        replace HE := Lib.hid (HE.out.set 1 (.slice A' D.length c'))
        replace HO := Lib.hid (HO.out.set 1 (.slice A' D.length c'))
        generalize w5.setCell ⟨w.heap.size, 1, none⟩ (.slice A' D.length c') = w7 at *
        have CV := Lib.hid (rwith_any w7 (Pp P w.heap.size (w.heap.size + 1 + 1)) (HM.out.new HP.out) (some ⟨ba, oa, none⟩) D ca k ⟨true, key, d, ⟨a, b, c, e⟩⟩ h1 hkn HO.out)
        unfold enV at CV
        refine CV.out.mono ?_
        rintro e9 w8 ⟨A2, c2, rfl, he, hb⟩
        rw [List.length_set]
        replace HM := Lib.hid (HM.out.keep hb)
        replace HE := Lib.hid (HE.out.below hb)
        have HE2 := Lib.hid he
        clear he hb CV
        have e0 := cell_blk HM.out.eb 0
        have e1 := cell_blk HM.out.eb 1
        have e2 := cell_blk HM.out.eb 2
        have e3 := cell_blk HM.out.eb 3
        have e4 := cell_blk HM.out.eb 4
        have e5 := cell_blk HM.out.eb 5
        have e6 := cell_blk HM.out.eb 6
        have t0 := cell_blk HM.out.tb 0
        have t1 := cell_blk HM.out.tb 1
        have t2 := cell_blk HM.out.tb 2
        have t3 := cell_blk HM.out.tb 3
        have r0 := cell_blk HM.out.rb 0
        have r1 := cell_blk HM.out.rb 1
        have r2 := cell_blk HM.out.rb 2
        have r3 := cell_blk HM.out.rb 3
        have ft : ∀ o, w8.frozen? ⟨w.heap.size, o, none⟩ = false := fun o => free_blk HM.out.tb o
        have fr : ∀ o, w8.frozen? ⟨w.heap.size + 1 + 1, o, none⟩ = false := fun o => free_blk HM.out.rb o
        go_wp2_with fail
        clear e0 e1 e2 e3 e4 e5 e6 t0 t1 t2 t3 r0 r1 r2 r3 ft fr
        replace HM := Lib.hid (HM.out.setA (.slice A2 D.length c2))
        replace HE := Lib.hid (HE.out.set 0 (.slice A2 D.length c2))
        replace HE2 := Lib.hid (HE2.out.set 0 (.slice A2 D.length c2))
        have HF := Lib.hid HM.out.fin
        have HEA := Lib.hid (HF.out.2.2 P _ _ HE2.out)
        have HEB := Lib.hid (HF.out.2.2 P _ _ HE.out)
        unfold storeT at HF HEA HEB
        clear HM
        generalize (((((w8.setCell ⟨w.heap.size, 0, none⟩ (.slice A2 D.length c2)).setCell ⟨w.heap.size + 1 + 1, 0, none⟩ (.slice A2 D.length c2)).setCell ⟨w.heap.size + 1 + 1, 1, none⟩ (.slice A' D.length c')).setCell ⟨w.heap.size + 1 + 1, 2, none⟩ (.int .i64 f)).setCell ⟨w.heap.size + 1 + 1, 3, none⟩ (.int .i64 m)) = w6 at *
        have k0 := cell_blk HF.out.1 0
        have k1 := cell_blk HF.out.1 1
        have k2 := cell_blk HF.out.1 2
        have k3 := cell_blk HF.out.1 3
        refine bodyPost_ret (v := .agg #[.slice A2 D.length c2, .slice A' D.length c', .int .i64 f, .int .i64 m]) (by simp [results, Tryd.results22, go_sem, k0, k1, k2, k3]) rfl ?_
        rw [HPF.out]
        exact ⟨_, _, _, _, rfl, HEA.out, HEB.out, by simp, by simp [HL.out], HF.out.2.1⟩
    · rw [hxu] at i0
      have HPF := Lib.hid hp
      clear hp
      rcases hy with hyu | ⟨hyu, hyk⟩
      · rw [hyu] at j0
        go_wp2_with fail
        clear i0 i1 i2 i3 i4 i5 i6 j0 j1 j2 e0 e1 e2 e3 e4 e5 e6 t0 t1 t2 t3 r0 r1 r2 r3 ft fr
        have CW := Lib.hid (rwith_any wc (Pp P w.heap.size (w.heap.size + 1 + 1)) (HM.out.new HP.out) (some ⟨bb, ob, none⟩) R cb k x (by rw [HL.out]; exact h1) (by rw [HL.out]; exact hkn) (HM.out.old HB.out))
        unfold enV at CW
        rw [HL.out] at CW
        rw [hxu] at CW
        refine CW.out.mono ?_
        rintro e9 w5 ⟨A', c', rfl, he, hb⟩
        rw [List.length_set, HL.out]
        replace HM := Lib.hid (HM.out.keep hb)
        have HE := Lib.hid he
        have HO := Lib.hid (HM.out.old HA.out)
        clear he hb CW
        have e0 := cell_blk HM.out.eb 0
        have e1 := cell_blk HM.out.eb 1
        have e2 := cell_blk HM.out.eb 2
        have e3 := cell_blk HM.out.eb 3
        have e4 := cell_blk HM.out.eb 4
        have e5 := cell_blk HM.out.eb 5
        have e6 := cell_blk HM.out.eb 6
        have t0 := cell_blk HM.out.tb 0
        have t1 := cell_blk HM.out.tb 1
        have t2 := cell_blk HM.out.tb 2
        have t3 := cell_blk HM.out.tb 3
        have r0 := cell_blk HM.out.rb 0
        have r1 := cell_blk HM.out.rb 1
        have r2 := cell_blk HM.out.rb 2
        have r3 := cell_blk HM.out.rb 3
        have ft : ∀ o, w5.frozen? ⟨w.heap.size, o, none⟩ = false := fun o => free_blk HM.out.tb o
        have fr : ∀ o, w5.frozen? ⟨w.heap.size + 1 + 1, o, none⟩ = false := fun o => free_blk HM.out.rb o
        have hq1 : w2.heap.size ≠ w.heap.size := HM.out.n2.symm
        have hq2 : w.heap.size ≠ w2.heap.size := HM.out.n2
        go_wp2_with fail
        clear e0 e1 e2 e3 e4 e5 e6 t0 t1 t2 t3 r0 r1 r2 r3 ft fr hq1 hq2
        replace HM := Lib.hid (HM.out.setB (.slice A' D.length c'))
        replace HE := Lib.hid (HE.out.set 1 (.slice A' D.length c'))
        replace HO := Lib.hid (HO.out.set 1 (.slice A' D.length c'))
        generalize w5.setCell ⟨w.heap.size, 1, none⟩ (.slice A' D.length c') = w7 at *
        have CV := Lib.hid (rwith_any w7 (Pp P w.heap.size (w.heap.size + 1 + 1)) (HM.out.new HP.out) (some ⟨ba, oa, none⟩) D ca k ⟨true, key, d, ⟨a, b, c, e⟩⟩ h1 hkn HO.out)
        unfold enV at CV
        refine CV.out.mono ?_
        rintro e9 w8 ⟨A2, c2, rfl, he, hb⟩
        rw [List.length_set]
        replace HM := Lib.hid (HM.out.keep hb)
        replace HE := Lib.hid (HE.out.below hb)
        have HE2 := Lib.hid he
        clear he hb CV
        have e0 := cell_blk HM.out.eb 0
        have e1 := cell_blk HM.out.eb 1
        have e2 := cell_blk HM.out.eb 2
        have e3 := cell_blk HM.out.eb 3
        have e4 := cell_blk HM.out.eb 4
        have e5 := cell_blk HM.out.eb 5
        have e6 := cell_blk HM.out.eb 6
        have t0 := cell_blk HM.out.tb 0
        have t1 := cell_blk HM.out.tb 1
        have t2 := cell_blk HM.out.tb 2
        have t3 := cell_blk HM.out.tb 3
        have r0 := cell_blk HM.out.rb 0
        have r1 := cell_blk HM.out.rb 1
        have r2 := cell_blk HM.out.rb 2
        have r3 := cell_blk HM.out.rb 3
        have ft : ∀ o, w8.frozen? ⟨w.heap.size, o, none⟩ = false := fun o => free_blk HM.out.tb o
        have fr : ∀ o, w8.frozen? ⟨w.heap.size + 1 + 1, o, none⟩ = false := fun o => free_blk HM.out.rb o
        go_wp2_with fail
        clear e0 e1 e2 e3 e4 e5 e6 t0 t1 t2 t3 r0 r1 r2 r3 ft fr
        replace HM := Lib.hid (HM.out.setA (.slice A2 D.length c2))
        replace HE := Lib.hid (HE.out.set 0 (.slice A2 D.length c2))
        replace HE2 := Lib.hid (HE2.out.set 0 (.slice A2 D.length c2))
        have HF := Lib.hid HM.out.fin
        have HEA := Lib.hid (HF.out.2.2 P _ _ HE2.out)
        have HEB := Lib.hid (HF.out.2.2 P _ _ HE.out)
        unfold storeT at HF HEA HEB
        clear HM
        generalize (((((w8.setCell ⟨w.heap.size, 0, none⟩ (.slice A2 D.length c2)).setCell ⟨w.heap.size + 1 + 1, 0, none⟩ (.slice A2 D.length c2)).setCell ⟨w.heap.size + 1 + 1, 1, none⟩ (.slice A' D.length c')).setCell ⟨w.heap.size + 1 + 1, 2, none⟩ (.int .i64 f)).setCell ⟨w.heap.size + 1 + 1, 3, none⟩ (.int .i64 m)) = w6 at *
        have k0 := cell_blk HF.out.1 0
        have k1 := cell_blk HF.out.1 1
        have k2 := cell_blk HF.out.1 2
        have k3 := cell_blk HF.out.1 3
        refine bodyPost_ret (v := .agg #[.slice A2 D.length c2, .slice A' D.length c', .int .i64 f, .int .i64 m]) (by simp [results, Tryd.results22, go_sem, k0, k1, k2, k3]) rfl ?_
        rw [HPF.out]
        exact ⟨_, _, _, _, rfl, HEA.out, HEB.out, by simp, by simp [HL.out], HF.out.2.1⟩
      · rw [hyu] at j0
        unfold pkey at hyk
        go_wp2_with fail
        clear i0 i1 i2 i3 i4 i5 i6 j0 j1 j2 e0 e1 e2 e3 e4 e5 e6 t0 t1 t2 t3 r0 r1 r2 r3 ft fr
        have CW := Lib.hid (rwith_any wc (Pp P w.heap.size (w.heap.size + 1 + 1)) (HM.out.new HP.out) (some ⟨bb, ob, none⟩) R cb k x (by rw [HL.out]; exact h1) (by rw [HL.out]; exact hkn) (HM.out.old HB.out))
        unfold enV at CW
        rw [HL.out] at CW
        rw [hxu] at CW
        refine CW.out.mono ?_
        rintro e9 w5 ⟨A', c', rfl, he, hb⟩
        rw [List.length_set, HL.out]
        replace HM := Lib.hid (HM.out.keep hb)
        have HE := Lib.hid he
        have HO := Lib.hid (HM.out.old HA.out)
        clear he hb CW
        have e0 := cell_blk HM.out.eb 0
        have e1 := cell_blk HM.out.eb 1
        have e2 := cell_blk HM.out.eb 2
        have e3 := cell_blk HM.out.eb 3
        have e4 := cell_blk HM.out.eb 4
        have e5 := cell_blk HM.out.eb 5
        have e6 := cell_blk HM.out.eb 6
        have t0 := cell_blk HM.out.tb 0
        have t1 := cell_blk HM.out.tb 1
        have t2 := cell_blk HM.out.tb 2
        have t3 := cell_blk HM.out.tb 3
        have r0 := cell_blk HM.out.rb 0
        have r1 := cell_blk HM.out.rb 1
        have r2 := cell_blk HM.out.rb 2
        have r3 := cell_blk HM.out.rb 3
        have ft : ∀ o, w5.frozen? ⟨w.heap.size, o, none⟩ = false := fun o => free_blk HM.out.tb o
        have fr : ∀ o, w5.frozen? ⟨w.heap.size + 1 + 1, o, none⟩ = false := fun o => free_blk HM.out.rb o
        have hq1 : w2.heap.size ≠ w.heap.size := HM.out.n2.symm
        have hq2 : w.heap.size ≠ w2.heap.size := HM.out.n2
        go_wp2_with fail
        clear e0 e1 e2 e3 e4 e5 e6 t0 t1 t2 t3 r0 r1 r2 r3 ft fr hq1 hq2
        replace HM := Lib.hid (HM.out.setB (.slice A' D.length c'))
        replace HE := Lib.hid (HE.out.set 1 (.slice A' D.length c'))
        replace HO := Lib.hid (HO.out.set 1 (.slice A' D.length c'))
        generalize w5.setCell ⟨w.heap.size, 1, none⟩ (.slice A' D.length c') = w7 at *
        have CV := Lib.hid (rwith_any w7 (Pp P w.heap.size (w.heap.size + 1 + 1)) (HM.out.new HP.out) (some ⟨ba, oa, none⟩) D ca k ⟨true, key, d, ⟨a, b, c, e⟩⟩ h1 hkn HO.out)
        unfold enV at CV
        refine CV.out.mono ?_
        rintro e9 w8 ⟨A2, c2, rfl, he, hb⟩
        rw [List.length_set]
        replace HM := Lib.hid (HM.out.keep hb)
        replace HE := Lib.hid (HE.out.below hb)
        have HE2 := Lib.hid he
        clear he hb CV
        have e0 := cell_blk HM.out.eb 0
        have e1 := cell_blk HM.out.eb 1
        have e2 := cell_blk HM.out.eb 2
        have e3 := cell_blk HM.out.eb 3
        have e4 := cell_blk HM.out.eb 4
        have e5 := cell_blk HM.out.eb 5
        have e6 := cell_blk HM.out.eb 6
        have t0 := cell_blk HM.out.tb 0
        have t1 := cell_blk HM.out.tb 1
        have t2 := cell_blk HM.out.tb 2
        have t3 := cell_blk HM.out.tb 3
        have r0 := cell_blk HM.out.rb 0
        have r1 := cell_blk HM.out.rb 1
        have r2 := cell_blk HM.out.rb 2
        have r3 := cell_blk HM.out.rb 3
        have ft : ∀ o, w8.frozen? ⟨w.heap.size, o, none⟩ = false := fun o => free_blk HM.out.tb o
        have fr : ∀ o, w8.frozen? ⟨w.heap.size + 1 + 1, o, none⟩ = false := fun o => free_blk HM.out.rb o
        go_wp2_with fail
        clear e0 e1 e2 e3 e4 e5 e6 t0 t1 t2 t3 r0 r1 r2 r3 ft fr
        replace HM := Lib.hid (HM.out.setA (.slice A2 D.length c2))
        replace HE := Lib.hid (HE.out.set 0 (.slice A2 D.length c2))
        replace HE2 := Lib.hid (HE2.out.set 0 (.slice A2 D.length c2))
        have HF := Lib.hid HM.out.fin
        have HEA := Lib.hid (HF.out.2.2 P _ _ HE2.out)
        have HEB := Lib.hid (HF.out.2.2 P _ _ HE.out)
        unfold storeT at HF HEA HEB
        clear HM
        generalize (((((w8.setCell ⟨w.heap.size, 0, none⟩ (.slice A2 D.length c2)).setCell ⟨w.heap.size + 1 + 1, 0, none⟩ (.slice A2 D.length c2)).setCell ⟨w.heap.size + 1 + 1, 1, none⟩ (.slice A' D.length c')).setCell ⟨w.heap.size + 1 + 1, 2, none⟩ (.int .i64 f)).setCell ⟨w.heap.size + 1 + 1, 3, none⟩ (.int .i64 m)) = w6 at *
        have k0 := cell_blk HF.out.1 0
        have k1 := cell_blk HF.out.1 1
        have k2 := cell_blk HF.out.1 2
        have k3 := cell_blk HF.out.1 3
        refine bodyPost_ret (v := .agg #[.slice A2 D.length c2, .slice A' D.length c', .int .i64 f, .int .i64 m]) (by simp [results, Tryd.results22, go_sem, k0, k1, k2, k3]) rfl ?_
        rw [HPF.out]
        exact ⟨_, _, _, _, rfl, HEA.out, HEB.out, by simp, by simp [HL.out], HF.out.2.1⟩
end Go.Proofs.YtggffmbhpgioaaaDoor
