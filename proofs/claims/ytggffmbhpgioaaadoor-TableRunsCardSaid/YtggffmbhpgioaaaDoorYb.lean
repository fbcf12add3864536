/- The plain law of TableRuns; the reference's methods as its loop meets them. -/
import Derived.Test.YtggffmbhpgioaaaDoorZq
import Derived.Test.YtggffmbhpgioaaaDoorZu
namespace Go.Proofs.YtggffmbhpgioaaaDoor
open Go Go.RowKit Go.Shelf
set_option linter.unusedSimpArgs false

/-- the two lists of the reference are the table's entries -/
structure Rel (n : Nat) (T D R : List En) : Prop where
  len : T.length = 2 * n
  ld : D.length = n
  lr : R.length = n
  eq : ∀ k, k < n → T[2 * k]? = D[k]? ∧ T[2 * k + 1]? = R[k]?
theorem rel_rep (n : Nat) : Rel n (List.replicate (2 * n) en0) (List.replicate n en0) (List.replicate n en0) := by
  refine ⟨by simp, by simp, by simp, fun k hk => ?_⟩
  simp only [List.getElem?_replicate]
  rw [if_pos (by omega : 2 * k < 2 * n), if_pos (by omega : 2 * k + 1 < 2 * n), if_pos hk]
  exact ⟨rfl, rfl⟩
section
variable {n : Nat} {T D R : List En}
theorem Rel.setD (h : Rel n T D R) (s : Nat) (e : En) (hs : s < n) : Rel n (T.set (2 * s) e) (D.set s e) R := by
  have l := h.len
  have l2 := h.ld
  refine ⟨by simpa using l, by simpa using l2, h.lr, fun k hk => ?_⟩
  by_cases hks : k = s
  · subst hks
    rw [List.getElem?_set_self (by omega), List.getElem?_set_self (by omega), List.getElem?_set_ne (by omega)]
    exact ⟨rfl, (h.eq k hk).2⟩
  · rw [List.getElem?_set_ne (by omega), List.getElem?_set_ne (by omega), List.getElem?_set_ne (by omega)]
    exact h.eq k hk
theorem Rel.setR (h : Rel n T D R) (s : Nat) (e : En) (hs : s < n) : Rel n (T.set (2 * s + 1) e) D (R.set s e) := by
  have l := h.len
  have l2 := h.lr
  refine ⟨by simpa using l, h.ld, by simpa using l2, fun k hk => ?_⟩
  by_cases hks : k = s
  · subst hks
    rw [List.getElem?_set_ne (by omega), List.getElem?_set_self (by omega), List.getElem?_set_self (by omega)]
    exact ⟨(h.eq k hk).1, rfl⟩
  · rw [List.getElem?_set_ne (by omega), List.getElem?_set_ne (by omega), List.getElem?_set_ne (by omega)]
    exact h.eq k hk
theorem Rel.getD (h : Rel n T D R) {s : Nat} (hs : s < n) : T.getD (2 * s) en0 = D.getD s en0 ∧ T.getD (2 * s + 1) en0 = R.getD s en0 := by
  simp only [List.getD_eq_getElem?_getD]
  rw [(h.eq s hs).1, (h.eq s hs).2]
  exact ⟨rfl, rfl⟩
theorem Rel.put (h : Rel n T D R) {s : Nat} (hs : s < n) (e : En) : Rel n (putF T s e) (rputF D R s e).1 (rputF D R s e).2 := by
  unfold putF rputF
  rw [(h.getD hs).1, (h.getD hs).2]
  simp only
  split
  · split
    · exact h.setD s e hs
    · exact h
  · split
    · split
      · exact h.setR s e hs
      · exact h
    · split
      · exact h.setR s e hs
      · exact (h.setR s _ hs).setD s e hs
theorem Rel.get (h : Rel n T D R) {s : Nat} (hs : s < n) (key : ByteArray) (d : Int) : rgetF D R s key d = getF T s key d := by
  unfold getF rgetF
  rw [(h.getD hs).1, (h.getD hs).2]
theorem Rel.cnt (h : Rel n T D R) : ∀ k, k ≤ n → lenF (T.take (2 * k)) = lenF (D.take k) + lenF (R.take k)
  | 0, _ => by simp [lenF]
  | k + 1, hk => by
    have l := h.len
    have l1 := h.ld
    have l2 := h.lr
    obtain ⟨x, hx⟩ : ∃ x, D[k]? = some x := ⟨_, List.getElem?_eq_getElem (by omega)⟩
    obtain ⟨y, hy⟩ : ∃ y, R[k]? = some y := ⟨_, List.getElem?_eq_getElem (by omega)⟩
    have he := h.eq k (by omega)
    rw [len_take (he.1.trans hx) (he.2.trans hy), cnt_take hx, cnt_take hy, h.cnt k (by omega)]
    omega
theorem Rel.count (h : Rel n T D R) : lenF D + lenF R = lenF T := by
  have := h.cnt n (Nat.le_refl _)
  rw [List.take_of_length_le (by rw [h.len]; exact Nat.le_refl _), List.take_of_length_le (by rw [h.ld]; exact Nat.le_refl _), List.take_of_length_le (by rw [h.lr]; exact Nat.le_refl _)] at this
  exact this.symm
end

def Pq (bt bs q : Nat) (b : Nat) : Prop := b ≠ bt ∧ b ≠ bs ∧ b ≠ q
def tbO (A B : Option Addr) (n ca cb : Nat) (h m : Int) : Obj := .cells #[.slice A n ca, .slice B n cb, .int .i64 h, .int .i64 m] 46
/-- the reference's table in a block q of its own -/
structure MS (W y : World) (bt bs q n : Nat) (A B : Option Addr) (ca cb : Nat) (D R : List En) (h m : Int) : Prop where
  blk : y.heap[q]? = some (tbO A B n ca cb h m)
  q0 : W.heap.size ≤ q
  q1 : q ≠ bt
  q2 : q ≠ bs
  ea : EnS y (Pq bt bs q) A D
  eb : EnS y (Pq bt bs q) B R
section
variable {W y y' : World} {bt bs q n : Nat} {A B : Option Addr} {ca cb : Nat} {D R : List En} {h m : Int}
theorem MS.keep (a : MS W y bt bs q n A B ca cb D R h m) (hb : Below y.heap.size y y') : MS W y' bt bs q n A B ca cb D R h m := ⟨blk_keep hb a.blk, a.q0, a.q1, a.q2, a.ea.below hb, a.eb.below hb⟩
theorem MS.grown (a : MS W y bt bs q n A B ca cb D R h m) {row : Nat} (hg : y.grownBy y' (some row)) (hr : row = bt ∨ row = bs) : MS W y' bt bs q n A B ca cb D R h m := by
  have hne : ∀ b, Pq bt bs q b → some b ≠ some row := fun b hb => by
    rcases hr with rfl | rfl
    · simpa using hb.1
    · simpa using hb.2.1
  refine ⟨(hg.block q (Array.getElem?_eq_some_iff.1 a.blk).1 ?_).trans a.blk, a.q0, a.q1, a.q2, a.ea.keep (fun b hp hlt => hg.block b hlt (hne b hp)) hg.size, a.eb.keep (fun b hp hlt => hg.block b hlt (hne b hp)) hg.size⟩
  rcases hr with rfl | rfl
  · simpa using a.q1
  · simpa using a.q2
theorem MS.cells (a : MS W y bt bs q n A B ca cb D R h m) : y.cell? ⟨q, 0, none⟩ = some (.slice A n ca) ∧ y.cell? ⟨q, 1, none⟩ = some (.slice B n cb) ∧ y.cell? ⟨q, 2, none⟩ = some (.int .i64 h) ∧ y.cell? ⟨q, 3, none⟩ = some (.int .i64 m) :=
  ⟨cell_blk a.blk 0, cell_blk a.blk 1, cell_blk a.blk 2, cell_blk a.blk 3⟩
theorem MS.free (a : MS W y bt bs q n A B ca cb D R h m) : ∀ o, y.frozen? ⟨q, o, none⟩ = false := fun o => free_blk a.blk o
/-- a new value stored -/
theorem MS.store (a : MS W y bt bs q n A B ca cb D R h m) {A' B' : Option Addr} {ca' cb' : Nat} {D' R' : List En} (h' m' : Int) (ea : EnS y (Pq bt bs q) A' D') (eb : EnS y (Pq bt bs q) B' R') :
    MS W ((((y.setCell ⟨q, 0, none⟩ (.slice A' n ca')).setCell ⟨q, 1, none⟩ (.slice B' n cb')).setCell ⟨q, 2, none⟩ (.int .i64 h')).setCell ⟨q, 3, none⟩ (.int .i64 m')) bt bs q n A' B' ca' cb' D' R' h' m' := by
  have hg := grown_storeT y q (.slice A' n ca') (.slice B' n cb') (.int .i64 h') (.int .i64 m')
  have hs := storeT_blk a.blk (.slice A' n ca') (.slice B' n cb') (.int .i64 h') (.int .i64 m')
  unfold storeT at hg hs
  exact ⟨hs, a.q0, a.q1, a.q2, ea.keep (fun b hp hlt => hg.block b hlt (by simp; exact hp.2.2)) hg.size, eb.keep (fun b hp hlt => hg.block b hlt (by simp; exact hp.2.2)) hg.size⟩
theorem MS.new (a : MS W y bt bs q n A B ca cb D R h m) {T : List En} {h2 m2 : Int} (l : LS W y bt bs n T h2 m2) : ∀ b, y.heap.size ≤ b → Pq bt bs q b := fun b hb => by
  have h1 := l.tab.lt
  have h2 := (Array.getElem?_eq_some_iff.1 a.blk).1
  exact ⟨by omega, by omega, by omega⟩
end
theorem LS.store {W y : World} {bt bs n q : Nat} {T : List En} {h m : Int} (a : LS W y bt bs n T h m) (h0 : W.heap.size ≤ q) (h1 : q ≠ bt) (h2 : q ≠ bs) (u0 u1 u2 u3 : Value) :
    LS W ((((y.setCell ⟨q, 0, none⟩ u0).setCell ⟨q, 1, none⟩ u1).setCell ⟨q, 2, none⟩ u2).setCell ⟨q, 3, none⟩ u3) bt bs n T h m := by
  have hg := grown_storeT y q u0 u1 u2 u3
  unfold storeT at hg
  exact ⟨a.tab.keep hg (by simpa using h1) (by simpa using h2), a.below.grown hg a.below.size (by intro k hk; injection hk with hk; rw [← hk]; exact h0), a.lt, a.ls⟩

section
variable (y : World) (P : Nat → Prop) {A B : Option Addr} {D R : List En} {n ca cb : Nat} {f m : Int}
theorem rput_law (hP : ∀ b, y.heap.size ≤ b → P b) (n0 : 0 < n) (n1 : n ≤ 4096) (hd : D.length = n) (hr : R.length = n) (ha : EnS y P A D) (hb : EnS y P B R) (key : ByteArray) (hk : key.size ≤ 60) (d a b c e : Int) :
    Calls Tryd.prog 22 #[.agg #[.slice A n ca, .slice B n cb, .int .i64 f, .int .i64 m], .string key, .int .i64 d, .agg #[.int .i64 a, .int .i64 b, .int .i64 c, .int .i64 e]] y (RPutP y P n f m (rputF D R (slotI key n) ⟨true, key, d, ⟨a, b, c, e⟩⟩)) := by
  subst hd
  exact rput_any y P hP A B D R ca cb f m n0 n1 hr ha hb key (by omega) d a b c e
theorem rget_law (n0 : 0 < n) (n1 : n ≤ 4096) (hd : D.length = n) (hr : R.length = n) (ha : EnS y P A D) (hb : EnS y P B R) (key : ByteArray) (hk : key.size ≤ 60) (d : Int) (f0 : 0 ≤ f) (f1 : f ≤ 100000) (m0 : 0 ≤ m) (m1 : m ≤ 100000) {r : Option Bd} {z : Bd} {s : Bool}
    (hg : rgetF D R (slotI key n) key d = r) (hz : r.getD bd0 = z) (hs : r.isSome = s) :
    Calls Tryd.prog 23 #[.agg #[.slice A n ca, .slice B n cb, .int .i64 f, .int .i64 m], .string key, .int .i64 d] y fun e y' => e = .returned (.tuple #[.agg #[.slice A n ca, .slice B n cb, .int .i64 (if s then f + 1 else f), .int .i64 (if s then m else m + 1)], .agg #[.int .i64 z.a, .int .i64 z.b, .int .i64 z.c, .int .i64 z.e], .bool s]) ∧ Below y.heap.size y y' := by
  subst hd
  refine (rget_any y P A B D R ca cb f m n0 n1 hr ha hb key (by omega) d f0 f1 m0 m1).mono fun e y' hy => ?_
  rw [hg] at hy
  subst hz
  subst hs
  exact ⟨hy.1, hy.2⟩
theorem rlen_law (n1 : n ≤ 4096) (hd : D.length = n) (hr : R.length = n) (ha : EnS y P A D) (hb : EnS y P B R) :
    Calls Tryd.prog 25 #[.agg #[.slice A n ca, .slice B n cb, .int .i64 f, .int .i64 m]] y (OutB y (.int .i64 ((lenF D + lenF R : Nat) : Int))) := by
  subst hd
  exact rlen_any y P A B D R ca cb f m n1 hr ha hb
end
end Go.Proofs.YtggffmbhpgioaaaDoor
