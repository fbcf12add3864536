/- The plain Get, and its walk. -/
import Derived.Test.YtggffmbhpgioaaaDoorZh
namespace Go.Proofs.YtggffmbhpgioaaaDoor
open Go Go.RowKit Go.Shelf
set_option linter.unusedSimpArgs false

/-- the entry that answers, if any -/
def getF (T : List En) (k : Nat) (key : ByteArray) (n : Int) : Option Bd :=
  let x := T.getD (2 * k) en0
  let y := T.getD (2 * k + 1) en0
  if x.u && pfit key n x then some x.b else if y.u && pfit key n y then some y.b else none
def GetP (w : World) (bt bs n : Nat) (T : List En) (h m : Int) (r : Option Bd) (e : Ending) (w' : World) : Prop :=
  e = .returned (.tuple #[bdV (r.getD bd0), .bool r.isSome]) ∧ TabM w' bt bs n T (if r.isSome then h + 1 else h) (if r.isSome then m else m + 1) ∧ w.grownBy w' (some bt)
theorem get_cases (T : List En) (k : Nat) (key : ByteArray) (n : Int) (x y : En) (hx : T[2 * k]? = some x) (hy : T[2 * k + 1]? = some y) :
    (findF (pfit key n) x y = 0 ∧ getF T k key n = some x.b) ∨ (findF (pfit key n) x y = 1 ∧ getF T k key n = some y.b) ∨ (findF (pfit key n) x y = -1 ∧ getF T k key n = none) := by
  have e1 : T.getD (2 * k) en0 = x := by rw [List.getD_eq_getElem?_getD, hx]; rfl
  have e2 : T.getD (2 * k + 1) en0 = y := by rw [List.getD_eq_getElem?_getD, hy]; rfl
  unfold getF findF
  rw [e1, e2]
  simp only
  cases x.u <;> cases y.u <;> cases pfit key n x <;> cases pfit key n y <;> simp

theorem three_new (w : World) (o1 o2 o3 : Obj) : Below w.heap.size w (((w.alloc o1).alloc o2).alloc o3) ∧ (((w.alloc o1).alloc o2).alloc o3).heap[w.heap.size]? = some o1 ∧ (((w.alloc o1).alloc o2).alloc o3).heap[w.heap.size + 1]? = some o2 ∧ (((w.alloc o1).alloc o2).alloc o3).heap[w.heap.size + 2]? = some o3 := by
  obtain ⟨h1, h2, h3⟩ := two_new w o1 o2
  refine ⟨h1.alloc (by simp; omega) _, (Below.heap_alloc _ _ _ (by simp; omega)).trans h2, (Below.heap_alloc _ _ _ (by simp)).trans h3, ?_⟩
  have := heap_alloc_new ((w.alloc o1).alloc o2) o3
  simpa using this
theorem heap_set_blk {w : World} {b i : Nat} {cs : Array Value} {t : TypeId} (h : w.heap[b]? = some (.cells cs t (0, 0))) (u : Value) : (w.setCell ⟨b, i, none⟩ u).heap[b]? = some (.cells (cs.setIfInBounds i u) t (0, 0)) := heap_setCell_same w b i cs t u h
theorem TabM.hit {w : World} {bt bs n : Nat} {T : List En} {h m : Int} (t : TabM w bt bs n T h m) (h' : Int) : TabM (w.setCell ⟨bt, 1, none⟩ (.int .i64 h')) bt bs n T h' m :=
  ⟨(heap_set_blk t.hd _).trans rfl, t.own.kept (grown_set w bt 1 _) (.inr (by simpa [Value.ownBlock] using (Ne.symm t.ne))), t.len, t.n0, t.n1, t.ne⟩
theorem TabM.miss {w : World} {bt bs n : Nat} {T : List En} {h m : Int} (t : TabM w bt bs n T h m) (m' : Int) : TabM (w.setCell ⟨bt, 2, none⟩ (.int .i64 m')) bt bs n T h m' :=
  ⟨(heap_set_blk t.hd _).trans rfl, t.own.kept (grown_set w bt 2 _) (.inr (by simpa [Value.ownBlock] using (Ne.symm t.ne))), t.len, t.n0, t.n1, t.ne⟩

/-- bounds stored into a block of their own -/
def storeB (w : World) (b : Nat) (x : Bd) : World := (((w.setCell ⟨b, 0, none⟩ (.int .i64 x.a)).setCell ⟨b, 1, none⟩ (.int .i64 x.b)).setCell ⟨b, 2, none⟩ (.int .i64 x.c)).setCell ⟨b, 3, none⟩ (.int .i64 x.e)
theorem grown_storeB (w : World) (b : Nat) (x : Bd) : w.grownBy (storeB w b x) (some b) := grown_trans (grown_trans (grown_trans (grown_set _ _ _ _) (grown_set _ _ _ _)) (grown_set _ _ _ _)) (grown_set _ _ _ _)
theorem storeB_blk {w : World} {b : Nat} {u0 u1 u2 u3 : Value} {t : TypeId} (h : w.heap[b]? = some (.cells #[u0, u1, u2, u3] t (0, 0))) (x : Bd) : (storeB w b x).heap[b]? = some (.cells #[.int .i64 x.a, .int .i64 x.b, .int .i64 x.c, .int .i64 x.e] t (0, 0)) :=
  (heap_set_blk (heap_set_blk (heap_set_blk (heap_set_blk h _) _) _) _).trans rfl
theorem get_grown {w w4 : World} {bt i : Nat} (HB4 : Below w.heap.size w w4) (u : Value) (x : Bd) : w.grownBy (storeB (w4.setCell ⟨bt, i, none⟩ u) (w.heap.size + 1 + 1) x) (some bt) := by
  have h1 := grown_trans (grown_below HB4 (some bt)) (grown_set w4 bt i u)
  have h2 := grown_storeB (w4.setCell ⟨bt, i, none⟩ u) (w.heap.size + 1 + 1) x
  exact ⟨h2.os.trans h1.os, h2.tape.trans h1.tape, h2.output.trans h1.output, Nat.le_trans h1.size h2.size, fun k hk hne => (h2.block k (Nat.lt_of_lt_of_le hk h1.size) (by simp; omega)).trans (h1.block k hk hne)⟩
theorem get_end1 {w w4 : World} {bt bs n : Nat} {T : List En} {h m : Int} {u0 u1 u2 u3 : Value} {t : TypeId} (HT : TabM w bt bs n T h m) (HT4 : TabM w4 bt bs n T h m) (HB4 : Below w.heap.size w w4) (R4 : w4.heap[w.heap.size + 2]? = some (.cells #[u0, u1, u2, u3] t (0, 0))) (x : Bd) :
    (storeB (w4.setCell ⟨bt, 1, none⟩ (.int .i64 (h + 1))) (w.heap.size + 1 + 1) x).heap[w.heap.size + 1 + 1]? = some (.cells #[.int .i64 x.a, .int .i64 x.b, .int .i64 x.c, .int .i64 x.e] t (0, 0)) ∧
    TabM (storeB (w4.setCell ⟨bt, 1, none⟩ (.int .i64 (h + 1))) (w.heap.size + 1 + 1) x) bt bs n T (h + 1) m ∧ w.grownBy (storeB (w4.setCell ⟨bt, 1, none⟩ (.int .i64 (h + 1))) (w.heap.size + 1 + 1) x) (some bt) := by
  have hlt := HT.lt
  exact ⟨storeB_blk ((Below.heap_setCell _ _ _ _ (by simp; omega)).trans R4) x, (HT4.hit (h + 1)).keep (grown_storeB _ _ _) (by simp; omega) (by simp; omega), get_grown HB4 _ _⟩
theorem get_end2 {w w4 : World} {bt bs n : Nat} {T : List En} {h m : Int} {u0 u1 u2 u3 : Value} {t : TypeId} (HT : TabM w bt bs n T h m) (HT4 : TabM w4 bt bs n T h m) (HB4 : Below w.heap.size w w4) (R4 : w4.heap[w.heap.size + 2]? = some (.cells #[u0, u1, u2, u3] t (0, 0))) (x : Bd) :
    (storeB (w4.setCell ⟨bt, 2, none⟩ (.int .i64 (m + 1))) (w.heap.size + 1 + 1) x).heap[w.heap.size + 1 + 1]? = some (.cells #[.int .i64 x.a, .int .i64 x.b, .int .i64 x.c, .int .i64 x.e] t (0, 0)) ∧
    TabM (storeB (w4.setCell ⟨bt, 2, none⟩ (.int .i64 (m + 1))) (w.heap.size + 1 + 1) x) bt bs n T h (m + 1) ∧ w.grownBy (storeB (w4.setCell ⟨bt, 2, none⟩ (.int .i64 (m + 1))) (w.heap.size + 1 + 1) x) (some bt) := by
  have hlt := HT.lt
  exact ⟨storeB_blk ((Below.heap_setCell _ _ _ _ (by simp; omega)).trans R4) x, (HT4.miss (m + 1)).keep (grown_storeB _ _ _) (by simp; omega) (by simp; omega), get_grown HB4 _ _⟩

set_option maxHeartbeats 4000000 in
set_option maxRecDepth 100000 in
theorem get_any (w : World) {bt bs n : Nat} {T : List En} {h m : Int} (t : TabM w bt bs n T h m) (key : ByteArray) (hks : key.size ≤ 9223372036854775807) (d : Int) (h0 : 0 ≤ h) (h1 : h ≤ 100000) (m0 : 0 ≤ m) (m1 : m ≤ 100000) :
    Calls Tryd.prog 16 #[.pointer (some ⟨bt, 0, none⟩), .string key, .int .i64 d] w (GetP w bt bs n T h m (getF T (slotI key n) key d)) := by
  have HT := Lib.hid t
  have hkn : slotI key n < n := Nat.mod_lt _ t.n0
  have hT := t.len
  have CS := Lib.hid (fun (w : World) (t : TabM w bt bs n T h m) => slot_any w t key hks)
  generalize slotI key n = k at *
  obtain ⟨x, hx⟩ : ∃ x, T[2 * k]? = some x := ⟨_, List.getElem?_eq_getElem (by omega)⟩
  obtain ⟨y, hy⟩ : ∃ y, T[2 * k + 1]? = some y := ⟨_, List.getElem?_eq_getElem (by omega)⟩
  have HX := Lib.hid hx
  have HY := Lib.hid hy
  have HG := Lib.hid (get_cases T k key d x y hx hy)
  clear hx hy t hks hT
  go_enter Tryd.func16, Tryd.ntmps16
  go_wp2_with fail
  have HW1 := Lib.hid (three_new w (.cells #[.string key] 9) (.cells #[.int .i64 d] 3) (.cells #[.int .i64 0, .int .i64 0, .int .i64 0, .int .i64 0] 37))
  generalize ((w.alloc (.cells #[.string key] 9)).alloc (.cells #[.int .i64 d] 3)).alloc (.cells #[.int .i64 0, .int .i64 0, .int .i64 0, .int .i64 0] 37) = w1 at *
  refine (right_any w1 (HT.out.below HW1.out.1)).mono ?_
  rintro e2 w2 ⟨rfl, rfl⟩
  have c1 := cell_blk HW1.out.2.1 0
  go_wp2_with fail
  clear c1
  refine (CS.out _ (HT.out.below HW1.out.1)).mono ?_
  rintro e2 w2 ⟨rfl, hb⟩
  have HB2 := Lib.hid (HW1.out.1.trans (hb.mono HW1.out.1.size))
  have K2 := Lib.hid ((hb.block _ (Array.getElem?_eq_some_iff.1 HW1.out.2.1).1).trans HW1.out.2.1)
  have D2 := Lib.hid ((hb.block _ (Array.getElem?_eq_some_iff.1 HW1.out.2.2.1).1).trans HW1.out.2.2.1)
  have R2 := Lib.hid ((hb.block _ (Array.getElem?_eq_some_iff.1 HW1.out.2.2.2).1).trans HW1.out.2.2.2)
  clear hb HW1 CS
  go_wp2_with fail
  have HT2 := Lib.hid (HT.out.below HB2.out)
  refine (gfind_any w2 x y key d w.heap.size (w.heap.size + 1) bs (k * 14) ⟨cell_blk K2.out 0, cell_blk D2.out 0⟩ (HT2.out.two HX.out HY.out)).mono ?_
  rintro e2 w4 ⟨rfl, hb⟩
  have HT4 := Lib.hid (HT2.out.below hb)
  have HB4 := Lib.hid (HB2.out.trans (hb.mono HB2.out.size))
  have R4 := Lib.hid ((hb.block _ (Array.getElem?_eq_some_iff.1 R2.out).1).trans R2.out)
  clear hb HT2 K2 D2 R2
  obtain ⟨c0, c1, c2, fr1, fr2⟩ := HT4.out.head
  obtain ⟨f0, f1, f2, f3, f4, f5, f6⟩ := (HT4.out.two HX.out HY.out).fst
  obtain ⟨g0, g1, g2, g3, g4, g5, g6⟩ := (HT4.out.two HX.out HY.out).snd
  have i0 := cell_blk R4.out 0
  have i1 := cell_blk R4.out 1
  have i2 := cell_blk R4.out 2
  have i3 := cell_blk R4.out 3
  have fr : ∀ o, w4.frozen? ⟨w.heap.size + 2, o, none⟩ = false := fun o => free_blk R4.out o
  have hlt := HT.out.lt
  have hne1 : w.heap.size + 2 ≠ bs := by omega
  have hne2 : w.heap.size + 2 ≠ bt := by omega
  clear hlt
  rcases HG.out with ⟨hf, hg⟩ | ⟨hf, hg⟩ | ⟨hf, hg⟩
  · rw [show findF (pfit key d) x y = 0 from hf]
    have HGF := Lib.hid hg
    clear hf hg
    go_wp2_with fail
    have HE := Lib.hid (get_end1 HT.out HT4.out HB4.out R4.out x.b)
    unfold storeB at HE
    skip
    generalize ((((w4.setCell ⟨bt, 1, none⟩ (.int .i64 (h + 1))).setCell ⟨w.heap.size + 1 + 1, 0, none⟩ (.int .i64 (x.b).a)).setCell ⟨w.heap.size + 1 + 1, 1, none⟩ (.int .i64 (x.b).b)).setCell ⟨w.heap.size + 1 + 1, 2, none⟩ (.int .i64 (x.b).c)).setCell ⟨w.heap.size + 1 + 1, 3, none⟩ (.int .i64 (x.b).e) = w5 at *
    have j0 := cell_blk HE.out.1 0
    have j1 := cell_blk HE.out.1 1
    have j2 := cell_blk HE.out.1 2
    have j3 := cell_blk HE.out.1 3
    refine bodyPost_ret (v := .tuple #[bdV x.b, .bool true]) (by simp [results, Tryd.results16, go_sem, bdV, j0, j1, j2, j3]) rfl ?_
    rw [HGF.out]
    exact ⟨rfl, HE.out.2.1, HE.out.2.2⟩
  · rw [show findF (pfit key d) x y = 1 from hf]
    have HGF := Lib.hid hg
    clear hf hg
    go_wp2_with fail
    have HE := Lib.hid (get_end1 HT.out HT4.out HB4.out R4.out y.b)
    unfold storeB at HE
    skip
    generalize ((((w4.setCell ⟨bt, 1, none⟩ (.int .i64 (h + 1))).setCell ⟨w.heap.size + 1 + 1, 0, none⟩ (.int .i64 (y.b).a)).setCell ⟨w.heap.size + 1 + 1, 1, none⟩ (.int .i64 (y.b).b)).setCell ⟨w.heap.size + 1 + 1, 2, none⟩ (.int .i64 (y.b).c)).setCell ⟨w.heap.size + 1 + 1, 3, none⟩ (.int .i64 (y.b).e) = w5 at *
    have j0 := cell_blk HE.out.1 0
    have j1 := cell_blk HE.out.1 1
    have j2 := cell_blk HE.out.1 2
    have j3 := cell_blk HE.out.1 3
    refine bodyPost_ret (v := .tuple #[bdV y.b, .bool true]) (by simp [results, Tryd.results16, go_sem, bdV, j0, j1, j2, j3]) rfl ?_
    rw [HGF.out]
    exact ⟨rfl, HE.out.2.1, HE.out.2.2⟩
  · rw [show findF (pfit key d) x y = -1 from hf]
    have HGF := Lib.hid hg
    clear hf hg
    go_wp2_with fail
    have HE := Lib.hid (get_end2 HT.out HT4.out HB4.out R4.out bd0)
    unfold storeB bd0 at HE
    simp only at HE
    generalize ((((w4.setCell ⟨bt, 2, none⟩ (.int .i64 (m + 1))).setCell ⟨w.heap.size + 1 + 1, 0, none⟩ (.int .i64 0)).setCell ⟨w.heap.size + 1 + 1, 1, none⟩ (.int .i64 0)).setCell ⟨w.heap.size + 1 + 1, 2, none⟩ (.int .i64 0)).setCell ⟨w.heap.size + 1 + 1, 3, none⟩ (.int .i64 0) = w5 at *
    have j0 := cell_blk HE.out.1 0
    have j1 := cell_blk HE.out.1 1
    have j2 := cell_blk HE.out.1 2
    have j3 := cell_blk HE.out.1 3
    refine bodyPost_ret (v := .tuple #[bdV bd0, .bool false]) (by simp [results, Tryd.results16, go_sem, bdV, bd0, j0, j1, j2, j3]) rfl ?_
    rw [HGF.out]
    exact ⟨rfl, HE.out.2.1, HE.out.2.2⟩
end Go.Proofs.YtggffmbhpgioaaaDoor
