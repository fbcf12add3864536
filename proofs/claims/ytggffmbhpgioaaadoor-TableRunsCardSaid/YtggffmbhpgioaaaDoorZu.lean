/- The plain law of TableTrue; what the laws' loops keep. -/
import Derived.Test.YtggffmbhpgioaaaDoorZt
import Derived.Deep.DeepCutAuto
import Derived.Test.YtggffmbhpgioaaaDoorHd
namespace Go.Proofs.YtggffmbhpgioaaaDoor
open Go Go.RowKit Go.Shelf
set_option linter.unusedSimpArgs false

theorem pkey_iff (key : ByteArray) (x : En) : pkey key x = true ↔ x.k.toList = key.toList := by unfold pkey; exact beq_iff_eq
/-- an entry was put by one of the operations -/
def Put1 (L : List Op1) (e : En) : Prop := ∃ op ∈ L, op.kind = 0 ∧ op.key = e.k ∧ op.d = e.d ∧ op.b = e.b
def InvT (T : List En) (L : List Op1) : Prop := ∀ (j : Nat) (e : En), T[j]? = some e → e.u = true → Put1 L e
theorem Put1.mono {L : List Op1} {e : En} (h : Put1 L e) (op : Op1) : Put1 (L ++ [op]) e := by
  obtain ⟨o, ho, h2⟩ := h
  exact ⟨o, List.mem_append_left _ ho, h2⟩
theorem invT_rep (n : Nat) : InvT (List.replicate n en0) [] := by
  intro j e he hu
  rw [List.getElem?_replicate] at he
  split at he
  · injection he with he
    subst he
    cases hu
  · cases he
theorem InvT.set {T : List En} {L : List Op1} (h : InvT T L) (j : Nat) (e : En) (he : e.u = true → Put1 L e) : InvT (T.set j e) L := by
  intro i x hx hu
  by_cases hij : i = j
  · subst hij
    rw [List.getElem?_set] at hx
    simp only [if_true] at hx
    split at hx
    · injection hx with hx
      subst hx
      exact he hu
    · cases hx
  · rw [List.getElem?_set_ne (Ne.symm hij)] at hx
    exact h i x hx hu
theorem InvT.getD {T : List En} {L : List Op1} (h : InvT T L) (j : Nat) : (T.getD j en0).u = true → Put1 L (T.getD j en0) := by
  intro hu
  rw [List.getD_eq_getElem?_getD] at *
  cases hj : T[j]? with
  | none => rw [hj] at hu; cases hu
  | some e => rw [hj] at hu; exact h j e hj hu
theorem InvT.put {T : List En} {L : List Op1} (h : InvT T L) (k : Nat) (op : Op1) (hk : op.kind = 0) : InvT (putF T k ⟨true, op.key, op.d, op.b⟩) (L ++ [op]) := by
  have h1 : InvT T (L ++ [op]) := fun j e he hu => (h j e he hu).mono op
  have h2 : Put1 (L ++ [op]) ⟨true, op.key, op.d, op.b⟩ := ⟨op, by simp, hk, rfl, rfl, rfl⟩
  unfold putF
  simp only
  split
  · split
    · exact h1.set _ _ (fun _ => h2)
    · exact h1
  · split
    · split
      · exact h1.set _ _ (fun _ => h2)
      · exact h1
    · split
      · exact h1.set _ _ (fun _ => h2)
      · exact (h1.set _ _ (fun hu => (h.getD _ hu).mono op)).set _ _ (fun _ => h2)
/-- does an operation justify the answer b for a key and a depth -/
def matchB (key : ByteArray) (n : Int) (b : Bd) (op : Op1) : Bool :=
  op.kind == 0 && (op.key.toList == key.toList && (op.b == b && (op.d == n || ((b.a == b.c && b.b == b.e) && decide (op.d ≤ n)))))
theorem match_of {key : ByteArray} {n : Int} {e : En} {op : Op1} (h0 : op.kind = 0) (h1 : op.key = e.k) (h2 : op.d = e.d) (h3 : op.b = e.b) (hp : pfit key n e = true) : matchB key n e.b op = true := by
  unfold pfit fitB at hp
  unfold matchB
  rw [h0, h1, h2, h3]
  simpa using hp
theorem InvT.get {T : List En} {L : List Op1} (h : InvT T L) {k : Nat} {key : ByteArray} {n : Int} {b : Bd} (hg : getF T k key n = some b) : L.any (matchB key n b) = true := by
  have key1 : ∀ j, ((T.getD j en0).u && pfit key n (T.getD j en0)) = true → L.any (matchB key n (T.getD j en0).b) = true := by
    intro j hj
    rw [Bool.and_eq_true] at hj
    obtain ⟨op, ho, h0, h1, h2, h3⟩ := h.getD j hj.1
    exact List.any_eq_true.2 ⟨op, ho, match_of h0 h1 h2 h3 hj.2⟩
  unfold getF at hg
  simp only at hg
  split at hg
  · injection hg with hg
    subst hg
    exact key1 _ (by assumption)
  · split at hg
    · injection hg with hg
      subst hg
      exact key1 _ (by assumption)
    · cases hg
theorem any_snoc (p : Op1 → Bool) {l : List Op1} {k : Nat} {x : Op1} (hx : l[k]? = some x) : (l.take (k + 1)).any p = ((l.take k).any p || p x) := by
  obtain ⟨h1, h2⟩ := List.getElem?_eq_some_iff.1 hx
  rw [List.take_succ_eq_append_getElem h1, h2, List.any_append]
  simp

/-- what a law's loop keeps: the table, old memory -/
structure LS (W y : World) (bt bs n : Nat) (T : List En) (h m : Int) : Prop where
  tab : TabM y bt bs n T h m
  below : Below W.heap.size W y
  lt : W.heap.size ≤ bt
  ls : W.heap.size ≤ bs
section
variable {W y y' : World} {bt bs n : Nat} {T : List En} {h m : Int}
theorem LS.keep (a : LS W y bt bs n T h m) (hb : Below y.heap.size y y') : LS W y' bt bs n T h m := ⟨a.tab.below hb, a.below.trans (hb.mono a.below.size), a.lt, a.ls⟩
theorem LS.drew (a : LS W y bt bs n T h m) : LS W y.drew bt bs n T h m := a.keep (Below.drew (Below.refl _ _))
theorem LS.alloc (a : LS W y bt bs n T h m) (o : Obj) : LS W (y.alloc o) bt bs n T h m := a.keep ((Below.refl _ _).alloc (Nat.le_refl _) _)
theorem LS.put {T' : List En} (a : LS W y bt bs n T h m) (ht : TabM y' bt bs n T' h m) (hg : y.grownBy y' (some bs)) : LS W y' bt bs n T' h m := ⟨ht, a.below.grown hg a.below.size (by simp; exact a.ls), a.lt, a.ls⟩
theorem LS.get {h' m' : Int} (a : LS W y bt bs n T h m) (ht : TabM y' bt bs n T h' m') (hg : y.grownBy y' (some bt)) : LS W y' bt bs n T h' m' := ⟨ht, a.below.grown hg a.below.size (by simp; exact a.lt), a.lt, a.ls⟩
end
/-- and the block q of bounds z -/
structure GS (W y : World) (bt bs n : Nat) (T : List En) (h m : Int) (q : Nat) (z : Bd) : Prop where
  ls : LS W y bt bs n T h m
  blk : y.heap[q]? = some (.cells #[.int .i64 z.a, .int .i64 z.b, .int .i64 z.c, .int .i64 z.e] 37 (0, 0))
  q0 : W.heap.size ≤ q
section
variable {W y y' : World} {bt bs n : Nat} {T : List En} {h m : Int} {z : Bd} {q : Nat}
theorem GS.keep (a : GS W y bt bs n T h m q z) (hb : Below y.heap.size y y') : GS W y' bt bs n T h m q z := ⟨a.ls.keep hb, ((hb.block _ (Array.getElem?_eq_some_iff.1 a.blk).1).trans a.blk), a.q0⟩
/-- the box behind the call -/
theorem GS.after (a : LS W y bt bs n T h m) (z : Bd) : GS W (y.alloc (.cells #[.int .i64 z.a, .int .i64 z.b, .int .i64 z.c, .int .i64 z.e] 37)) bt bs n T h m y.heap.size z :=
  ⟨a.alloc _, heap_alloc_new _ _, a.below.size⟩
/-- the box ahead of the call -/
theorem GS.ahead {u0 u1 u2 u3 : Value} {q : Nat} (a : LS W y bt bs n T h m) (hq : y.heap[q]? = some (.cells #[u0, u1, u2, u3] 37 (0, 0))) (h1 : q ≠ bt) (h2 : q ≠ bs) (h3 : W.heap.size ≤ q) (z : Bd) :
    GS W ((((y.setCell ⟨q, 0, none⟩ (.int .i64 z.a)).setCell ⟨q, 1, none⟩ (.int .i64 z.b)).setCell ⟨q, 2, none⟩ (.int .i64 z.c)).setCell ⟨q, 3, none⟩ (.int .i64 z.e)) bt bs n T h m q z :=
  have hg := grown_storeB y q z
  ⟨⟨a.tab.keep hg (by simpa using h1) (by simpa using h2), a.below.grown hg a.below.size (by intro k hk; injection hk with hk; rw [← hk]; exact h3), a.lt, a.ls⟩, storeB_blk hq z, h3⟩
end
/-- Get as the laws meet it -/
theorem get_law (y : World) {bt bs n : Nat} {T : List En} {h m : Int} (t : TabM y bt bs n T h m) (key : ByteArray) (hks : key.size ≤ 60) (d : Int) (h0 : 0 ≤ h) (h1 : h ≤ 100000) (m0 : 0 ≤ m) (m1 : m ≤ 100000) {r : Option Bd} {z : Bd} {s : Bool}
    (hr : getF T (slotI key n) key d = r) (hz : r.getD bd0 = z) (hs : r.isSome = s) :
    Calls Tryd.prog 16 #[.pointer (some ⟨bt, 0, none⟩), .string key, .int .i64 d] y fun e y' => e = .returned (.tuple #[.agg #[.int .i64 z.a, .int .i64 z.b, .int .i64 z.c, .int .i64 z.e], .bool s]) ∧ TabM y' bt bs n T (if s then h + 1 else h) (if s then m else m + 1) ∧ y.grownBy y' (some bt) :=
  (get_any y t key (by omega) d h0 h1 m0 m1).mono fun e y' hy => by
    rw [hr] at hy
    subst hz
    subst hs
    exact ⟨hy.1, hy.2.1, hy.2.2⟩
theorem cell_grown {y y' : World} {bt g o : Nat} {u : Value} (hg : y.grownBy y' (some bt)) (h : y.cell? ⟨g, o, none⟩ = some u) (hne : g ≠ bt) : y'.cell? ⟨g, o, none⟩ = some u := hg.cell h (by simpa using hne)
section
variable {P : Program} {md : Region.Mode} {l : List Oper} {Q : Exit → Act → World → Prop} {S : World → Prop}
theorem held_two {fuel : Nat} {listed : Array Bool} {a : Act} {w : World} {i j : Nat} {o o2 : Oper} (ho : l[i]? = some o) (ho2 : l[j]? = some o2)
    (h : ∀ K' : Act → World → Prop, Shut (∀ a w, S w → (S w → wpAnyH P md l.toArray Q S fuel (listed.setIfInBounds i true) a w) → K' a w) → if Region.wanted o (yielded l.toArray a.tmps) = true then Oper.wp P o a w K' Q else K' (a.put o.dst undef) w)
    (h2 : ∀ K' : Act → World → Prop, Shut (∀ a w, S w → (S w → wpAnyH P md l.toArray Q S fuel (listed.setIfInBounds j true) a w) → K' a w) → if Region.wanted o2 (yielded l.toArray a.tmps) = true then Oper.wp P o2 a w K' Q else K' (a.put o2.dst undef) w) : AllReadyH P md l.toArray Q S fuel listed a w [i, j] :=
  AllReadyH.cons (by rw [List.getElem?_toArray]; exact ho) h (AllReadyH.cons (by rw [List.getElem?_toArray]; exact ho2) h2 AllReadyH.nil)
end
end Go.Proofs.YtggffmbhpgioaaaDoor
