/- The plain Put, and its walk. -/
import Derived.Test.YtggffmbhpgioaaaDoorZg
namespace Go.Proofs.YtggffmbhpgioaaaDoor
open Go Go.RowKit Go.Shelf
set_option linter.unusedSimpArgs false

/-- the entries after Put of e (which is full) in slot k -/
def putF (T : List En) (k : Nat) (e : En) : List En :=
  let x := T.getD (2 * k) en0
  let y := T.getD (2 * k + 1) en0
  if x.u && pkey e.k x then (if x.d ≤ e.d then T.set (2 * k) e else T)
  else if y.u && pkey e.k y then (if y.d ≤ e.d then T.set (2 * k + 1) e else T)
  else if x.u && decide (e.d < x.d) then T.set (2 * k + 1) e
  else (T.set (2 * k + 1) x).set (2 * k) e
def PutP (w : World) (bt bs n : Nat) (T : List En) (h m : Int) (e : Ending) (w' : World) : Prop := e = .returned (.tuple #[]) ∧ TabM w' bt bs n T h m ∧ w.grownBy w' (some bs)
/-- the world in which an entry was stored -/
def storeE (w : World) (b o : Nat) (x : En) : World :=
  (((((((w.setCell ⟨b, o, none⟩ (.bool x.u)).setCell ⟨b, o + 1, none⟩ (.string x.k)).setCell ⟨b, o + 2, none⟩ (.int .i64 x.d)).setCell ⟨b, o + 3, none⟩ (.int .i64 x.b.a)).setCell ⟨b, o + 4, none⟩ (.int .i64 x.b.b)).setCell ⟨b, o + 5, none⟩ (.int .i64 x.b.c)).setCell ⟨b, o + 6, none⟩ (.int .i64 x.b.e))
theorem grown_trans {a b c : World} {row : Option Nat} (h : a.grownBy b row) (k : b.grownBy c row) : a.grownBy c row :=
  ⟨k.os.trans h.os, k.tape.trans h.tape, k.output.trans h.output, Nat.le_trans h.size k.size, fun i hi hne => (k.block i (Nat.lt_of_lt_of_le hi h.size) hne).trans (h.block i hi hne)⟩
theorem grown_below {w w' : World} (hb : Below w.heap.size w w') (row : Option Nat) : w.grownBy w' row := ⟨hb.os, hb.tape, hb.output, hb.size, fun k hk _ => hb.block k hk⟩
theorem _root_.Go.World.grownBy.trans_drew {a b : World} {row : Option Nat} (h : a.grownBy b row) : a.grownBy b.drew row := ⟨h.os, h.tape, h.output, h.size, h.block⟩
theorem grown_set (w : World) (b o : Nat) (u : Value) : w.grownBy (w.setCell ⟨b, o, none⟩ u) (some b) := ⟨rfl, rfl, rfl, by simp [World.setCell], fun k _ hk => Below.heap_setCell _ _ _ _ (fun e => hk (by rw [e]))⟩
theorem grown_storeE (w : World) (b o : Nat) (x : En) : w.grownBy (storeE w b o x) (some b) :=
  grown_trans (grown_trans (grown_trans (grown_trans (grown_trans (grown_trans (grown_set _ _ _ _) (grown_set _ _ _ _)) (grown_set _ _ _ _)) (grown_set _ _ _ _)) (grown_set _ _ _ _)) (grown_set _ _ _ _)) (grown_set _ _ _ _)
theorem own_storeE {w : World} {base : Nat} {e : TypeId} {g n : Nat} {T : List En} (h : w.ownsRow base e 14 (.slice (some ⟨g, 0, none⟩) n n) n (T.flatMap enCells)) (j : Nat) (hj : j < T.length) (x : En) :
    (storeE w g (j * 7) x).ownsRow base e 14 (.slice (some ⟨g, 0, none⟩) n n) n ((T.set j x).flatMap enCells) := by
  rw [← fm_set T j x hj]
  exact (((((((h.stored _ _).1.stored _ _).1.stored _ _).1.stored _ _).1.stored _ _).1.stored _ _).1.stored _ _).1
theorem TabM.stored {w : World} {bt bs n : Nat} {T : List En} {h m : Int} (t : TabM w bt bs n T h m) {o j : Nat} (ho : o = j * 7) (hj : j < T.length) (x : En) : TabM (storeE w bs o x) bt bs n (T.set j x) h m := by
  subst ho
  exact ⟨((grown_storeE w bs (j * 7) x).block bt t.lt.1 (by simpa using t.ne)).trans t.hd, own_storeE t.own j hj x, by simpa using t.len, t.n0, t.n1, t.ne⟩

theorem two_new (w : World) (o1 o2 : Obj) : Below w.heap.size w ((w.alloc o1).alloc o2) ∧ ((w.alloc o1).alloc o2).heap[w.heap.size]? = some o1 ∧ ((w.alloc o1).alloc o2).heap[w.heap.size + 1]? = some o2 :=
  ⟨((Below.refl _ _).alloc (Nat.le_refl _) _).alloc (by simp) _, (Below.heap_alloc _ _ _ (by simp)).trans (heap_alloc_new w o1), by have := heap_alloc_new (w.alloc o1) o2; simpa using this⟩
theorem one_new (w : World) (o1 : Obj) : Below w.heap.size w (w.alloc o1) ∧ (w.alloc o1).heap[w.heap.size]? = some o1 :=
  ⟨(Below.refl _ _).alloc (Nat.le_refl _) _, heap_alloc_new w o1⟩
theorem region_tail {P : Program} {id : Nat} {Q : Exit → Act → World → Prop} {a : Act} {w : World} {l : List Oper} (n : Nat) (hm : P.follows .mixedOrders = true) (hB : Region.lexTailB .any l.toArray n = true)
    (h : wpStill P l.toArray w.drew (fun a' => wpList P l.toArray Q (l.drop n) a' w.drew) (l.take n) a) : (Code.region id l.toArray true).wp P Q a w :=
  wp_region_still_tail n hm hB h
theorem TabM.drew {w : World} {bt bs n : Nat} {T : List En} {h m : Int} (t : TabM w bt bs n T h m) : TabM w.drew bt bs n T h m := ⟨t.hd, t.own, t.len, t.n0, t.n1, t.ne⟩
/-- what Put leaves -/
theorem put_end {w w4 : World} {bt bs n : Nat} {T T' : List En} {h m : Int} (HT4 : TabM w4 bt bs n T h m) (HB4 : Below w.heap.size w w4) (z : En) {o j : Nat} (ho : o = j * 7) (hj : j < T.length) (hp : T' = T.set j z) :
    PutP w bt bs n T' h m (.returned (.tuple #[])) (storeE w4 bs o z).drew :=
  ⟨rfl, by rw [hp]; exact (HT4.stored ho hj z).drew, (grown_trans (grown_below HB4 _) (grown_storeE w4 bs o z)).trans_drew⟩
theorem put_end2 {w w5 : World} {bt bs n : Nat} {T0 T' : List En} {h m : Int} (HT5 : TabM w5 bt bs n T0 h m) (HG5 : w.grownBy w5 (some bs)) (z : En) {o j : Nat} (ho : o = j * 7) (hj : j < T0.length) (hp : T' = T0.set j z) :
    PutP w bt bs n T' h m (.returned (.tuple #[])) (storeE w5 bs o z).drew :=
  ⟨rfl, by rw [hp]; exact (HT5.stored ho hj z).drew, (grown_trans HG5 (grown_storeE w5 bs o z)).trans_drew⟩
/-- an entry in a block of its own -/
theorem en_blk {w : World} {b : Nat} {x : En} {t : TypeId} (h : w.heap[b]? = some (.cells #[.bool x.u, .string x.k, .int .i64 x.d, .int .i64 x.b.a, .int .i64 x.b.b, .int .i64 x.b.c, .int .i64 x.b.e] t (0, 0))) : One w b 0 x :=
  ⟨cell_blk h 0, cell_blk h 1, cell_blk h 2, cell_blk h 3, cell_blk h 4, cell_blk h 5, cell_blk h 6⟩

theorem put_cases (T : List En) (k : Nat) (x y z : En) (hx : T[2 * k]? = some x) (hy : T[2 * k + 1]? = some y) :
    (findF (pkey z.k) x y = 0 ∧ x.d ≤ z.d ∧ putF T k z = T.set (2 * k) z) ∨ (findF (pkey z.k) x y = 0 ∧ z.d < x.d ∧ putF T k z = T) ∨
    (findF (pkey z.k) x y = 1 ∧ y.d ≤ z.d ∧ putF T k z = T.set (2 * k + 1) z) ∨ (findF (pkey z.k) x y = 1 ∧ z.d < y.d ∧ putF T k z = T) ∨
    (findF (pkey z.k) x y = -1 ∧ x.u = true ∧ z.d < x.d ∧ putF T k z = T.set (2 * k + 1) z) ∨ (findF (pkey z.k) x y = -1 ∧ x.u = true ∧ x.d ≤ z.d ∧ putF T k z = (T.set (2 * k + 1) x).set (2 * k) z) ∨
    (findF (pkey z.k) x y = -1 ∧ x.u = false ∧ putF T k z = (T.set (2 * k + 1) x).set (2 * k) z) := by
  have e1 : T.getD (2 * k) en0 = x := by rw [List.getD_eq_getElem?_getD, hx]; rfl
  have e2 : T.getD (2 * k + 1) en0 = y := by rw [List.getD_eq_getElem?_getD, hy]; rfl
  unfold putF findF
  rw [e1, e2]
  simp only
  generalize x.u = xu at *
  generalize y.u = yu at *
  generalize pkey z.k x = px
  generalize pkey z.k y = py
  rcases Int.lt_or_le z.d x.d with h1 | h1
  · have h1' : ¬ x.d ≤ z.d := by omega
    rcases Int.lt_or_le z.d y.d with h2 | h2
    · have h2' : ¬ y.d ≤ z.d := by omega
      cases xu <;> cases px <;> cases yu <;> cases py <;> simp [h1, h1', h2, h2']
    · cases xu <;> cases px <;> cases yu <;> cases py <;> simp [h1, h1', h2]
  · have h1' : ¬ z.d < x.d := by omega
    rcases Int.lt_or_le z.d y.d with h2 | h2
    · have h2' : ¬ y.d ≤ z.d := by omega
      cases xu <;> cases px <;> cases yu <;> cases py <;> simp [h1, h1', h2, h2']
    · cases xu <;> cases px <;> cases yu <;> cases py <;> simp [h1, h1', h2]
set_option maxHeartbeats 4000000 in
set_option maxRecDepth 100000 in
theorem put_any (w : World) {bt bs n : Nat} {T : List En} {h m : Int} (t : TabM w bt bs n T h m) (key : ByteArray) (hks : key.size ≤ 9223372036854775807) (d a b c e : Int) :
    Calls Tryd.prog 15 #[.pointer (some ⟨bt, 0, none⟩), .string key, .int .i64 d, .agg #[.int .i64 a, .int .i64 b, .int .i64 c, .int .i64 e]] w (PutP w bt bs n (putF T (slotI key n) ⟨true, key, d, ⟨a, b, c, e⟩⟩) h m) := by
  have HT := Lib.hid t
  have hkn : slotI key n < n := Nat.mod_lt _ t.n0
  have hT := t.len
  have CS := Lib.hid (fun (w : World) (t : TabM w bt bs n T h m) => slot_any w t key hks)
  generalize slotI key n = k at *
  obtain ⟨x, hx⟩ : ∃ x, T[2 * k]? = some x := ⟨_, List.getElem?_eq_getElem (by omega)⟩
  obtain ⟨y, hy⟩ : ∃ y, T[2 * k + 1]? = some y := ⟨_, List.getElem?_eq_getElem (by omega)⟩
  have HX := Lib.hid hx
  have HY := Lib.hid hy
  clear hx hy t hks hT
  go_enter Tryd.func15, Tryd.ntmps15
  go_wp2_with fail
  have HW1 := Lib.hid (two_new w (.cells #[.string key] 9) (.cells #[.int .i64 a, .int .i64 b, .int .i64 c, .int .i64 e] 37))
  generalize (w.alloc (.cells #[.string key] 9)).alloc (.cells #[.int .i64 a, .int .i64 b, .int .i64 c, .int .i64 e] 37) = w1 at *
  refine (right_any w1 (HT.out.below HW1.out.1)).mono ?_
  rintro e2 w2 ⟨rfl, rfl⟩
  have c1 := cell_blk HW1.out.2.1 0
  go_wp2_with fail
  clear c1
  refine (CS.out _ (HT.out.below HW1.out.1)).mono ?_
  rintro e2 w2 ⟨rfl, hb⟩
  have HB2 := Lib.hid (HW1.out.1.trans (hb.mono HW1.out.1.size))
  have K2 := Lib.hid ((hb.block _ (Array.getElem?_eq_some_iff.1 HW1.out.2.1).1).trans HW1.out.2.1)
  have M2 := Lib.hid ((hb.block _ (Array.getElem?_eq_some_iff.1 HW1.out.2.2).1).trans HW1.out.2.2)
  clear hb HW1
  have c0 := cell_blk K2.out 0
  have m0 := cell_blk M2.out 0
  have m1 := cell_blk M2.out 1
  have m2 := cell_blk M2.out 2
  have m3 := cell_blk M2.out 3
  go_wp2_with fail
  clear c0 m0 m1 m2 m3
  have HW3 := Lib.hid (one_new w2 (.cells #[.bool true, .string key, .int .i64 d, .int .i64 a, .int .i64 b, .int .i64 c, .int .i64 e] 76))
  generalize w2.alloc (.cells #[.bool true, .string key, .int .i64 d, .int .i64 a, .int .i64 b, .int .i64 c, .int .i64 e] 76) = w3 at *
  have HT3 := Lib.hid (HT.out.below (HB2.out.trans (HW3.out.1.mono HB2.out.size)))
  have K3 := Lib.hid ((HW3.out.1.block _ (Array.getElem?_eq_some_iff.1 K2.out).1).trans K2.out)
  refine (pfind_any w3 x y key w.heap.size bs (k * 14) (cell_blk K3.out 0) (HT3.out.two HX.out HY.out)).mono ?_
  rintro e2 w4 ⟨rfl, hb⟩
  have HT4 := Lib.hid (HT3.out.below hb)
  have HB4 := Lib.hid (HB2.out.trans ((HW3.out.1.mono HB2.out.size).trans (hb.mono (Nat.le_trans HB2.out.size HW3.out.1.size))))
  have E4 := Lib.hid ((hb.block _ (Array.getElem?_eq_some_iff.1 HW3.out.2).1).trans HW3.out.2)
  clear hb HW3 HT3 K3 K2 M2 CS
  obtain ⟨f0, f1, f2, f3, f4, f5, f6⟩ := (HT4.out.two HX.out HY.out).fst
  obtain ⟨g0, g1, g2, g3, g4, g5, g6⟩ := (HT4.out.two HX.out HY.out).snd
  have i0 := cell_blk E4.out 0
  have i1 := cell_blk E4.out 1
  have i2 := cell_blk E4.out 2
  have i3 := cell_blk E4.out 3
  have i4 := cell_blk E4.out 4
  have i5 := cell_blk E4.out 5
  have i6 := cell_blk E4.out 6
  have fr : ∀ o, w4.frozen? ⟨bs, o, none⟩ = false := fun o => HT4.out.own.frozenAt o
  have hne : w2.heap.size ≠ bs := by have := (HT.out.below HB2.out).lt.2; omega
  have HL := Lib.hid HT.out.len
  rcases put_cases T k x y ⟨true, key, d, ⟨a, b, c, e⟩⟩ HX.out HY.out with ⟨hf, hd, hp⟩ | ⟨hf, hd, hp⟩ | ⟨hf, hd, hp⟩ | ⟨hf, hd, hp⟩ | ⟨hf, hu, hd, hp⟩ | ⟨hf, hu, hd, hp⟩ | ⟨hf, hu, hp⟩
  · rw [show findF (pkey key) x y = 0 from hf]
    have HP := Lib.hid hp
    simp only at hd
    clear hf hp
    go_wp2_with fail
    refine region_tail 5 (by kernel_rfl) (by kernel_rfl) ?_
    simp only [List.take_succ_cons, List.take_zero, List.drop_succ_cons, List.drop_zero]
    repeat still_step
    refine wpStill_nil ?_
    clear i0 i1 i2 i3 i4 i5 i6
    go_wp2_with fail
    go_end0
    exact put_end HT4.out HB4.out ⟨true, key, d, ⟨a, b, c, e⟩⟩ (o := k * 14) (j := 2 * k) (by omega) (by rw [HL.out]; omega) HP.out
  · rw [show findF (pkey key) x y = 0 from hf]
    have HP := Lib.hid hp
    simp only at hd
    clear hf hp
    go_wp2_with fail
    go_end0
    exact ⟨rfl, by rw [HP.out]; exact HT4.out, grown_below HB4.out _⟩
  · rw [show findF (pkey key) x y = 1 from hf]
    have HP := Lib.hid hp
    simp only at hd
    clear hf hp
    go_wp2_with fail
    refine region_tail 5 (by kernel_rfl) (by kernel_rfl) ?_
    simp only [List.take_succ_cons, List.take_zero, List.drop_succ_cons, List.drop_zero]
    repeat still_step
    refine wpStill_nil ?_
    clear i0 i1 i2 i3 i4 i5 i6
    go_wp2_with fail
    go_end0
    exact put_end HT4.out HB4.out ⟨true, key, d, ⟨a, b, c, e⟩⟩ (o := k * 14 + 7) (j := 2 * k + 1) (by omega) (by rw [HL.out]; omega) HP.out
  · rw [show findF (pkey key) x y = 1 from hf]
    have HP := Lib.hid hp
    simp only at hd
    clear hf hp
    go_wp2_with fail
    go_end0
    exact ⟨rfl, by rw [HP.out]; exact HT4.out, grown_below HB4.out _⟩
  · rw [hu] at f0
    rw [show findF (pkey key) x y = -1 from hf]
    have HP := Lib.hid hp
    simp only at hd
    clear hf hp
    go_wp2_with fail
    refine region_tail 4 (by kernel_rfl) (by kernel_rfl) ?_
    simp only [List.take_succ_cons, List.take_zero, List.drop_succ_cons, List.drop_zero]
    repeat still_step
    refine wpStill_nil ?_
    clear i0 i1 i2 i3 i4 i5 i6
    go_wp2_with fail
    go_end0
    exact put_end HT4.out HB4.out ⟨true, key, d, ⟨a, b, c, e⟩⟩ (o := k * 14 + 7) (j := 2 * k + 1) (by omega) (by rw [HL.out]; omega) HP.out
  · rw [hu] at f0
    rw [show findF (pkey key) x y = -1 from hf]
    have HP := Lib.hid hp
    simp only at hd
    clear hf hp
    go_wp2_with fail
    refine region_tail 7 (by kernel_rfl) (by kernel_rfl) ?_
    simp only [List.take_succ_cons, List.take_zero, List.drop_succ_cons, List.drop_zero]
    repeat still_step
    refine wpStill_nil ?_
    clear i0 i1 i2 i3 i4 i5 i6
    go_wp2_with fail
    have HT5 := Lib.hid (HT4.out.stored (o := k * 14 + 7) (j := 2 * k + 1) (by omega) (by rw [HL.out]; omega) x).drew
    have HG5 := Lib.hid (grown_trans (grown_below HB4.out _) (grown_storeE w4 bs (k * 14 + 7) x)).trans_drew
    have E5 := Lib.hid (((grown_storeE w4 bs (k * 14 + 7) x).trans_drew.block _ (Array.getElem?_eq_some_iff.1 E4.out).1 (by simpa using hne)).trans E4.out)
    unfold storeE at HT5 HG5 E5
    rw [hu] at HT5 HG5 E5
    clear E4 HB4 f0 f1 f2 f3 f4 f5 f6 g0 g1 g2 g3 g4 g5 g6 fr
    generalize (((((((w4.setCell ⟨bs, k * 14 + 7, none⟩ (.bool true)).setCell ⟨bs, k * 14 + 7 + 1, none⟩ (.string x.k)).setCell ⟨bs, k * 14 + 7 + 2, none⟩ (.int .i64 x.d)).setCell ⟨bs, k * 14 + 7 + 3, none⟩ (.int .i64 x.b.a)).setCell ⟨bs, k * 14 + 7 + 4, none⟩ (.int .i64 x.b.b)).setCell ⟨bs, k * 14 + 7 + 5, none⟩ (.int .i64 x.b.c)).setCell ⟨bs, k * 14 + 7 + 6, none⟩ (.int .i64 x.b.e)).drew = w5 at *
    obtain ⟨f0, f1, f2, f3, f4, f5, f6⟩ := (HT5.out.two (k := k) (x := x) (y := x) (by rw [List.getElem?_set_ne (by omega)]; exact HX.out) (by rw [List.getElem?_set_self (by rw [HL.out]; omega)])).fst
    have i0 := cell_blk E5.out 0
    have i1 := cell_blk E5.out 1
    have i2 := cell_blk E5.out 2
    have i3 := cell_blk E5.out 3
    have i4 := cell_blk E5.out 4
    have i5 := cell_blk E5.out 5
    have i6 := cell_blk E5.out 6
    have fr : ∀ o, w5.frozen? ⟨bs, o, none⟩ = false := fun o => HT5.out.own.frozenAt o
    go_wp2_with fail
    refine region_tail 4 (by kernel_rfl) (by kernel_rfl) ?_
    simp only [List.take_succ_cons, List.take_zero, List.drop_succ_cons, List.drop_zero]
    repeat still_step
    refine wpStill_nil ?_
    clear i0 i1 i2 i3 i4 i5 i6
    go_wp2_with fail
    go_end0
    exact put_end2 HT5.out HG5.out ⟨true, key, d, ⟨a, b, c, e⟩⟩ (o := k * 14) (j := 2 * k) (by omega) (by rw [List.length_set, HL.out]; omega) HP.out
  · rw [hu] at f0
    rw [show findF (pkey key) x y = -1 from hf]
    have HP := Lib.hid hp
    clear hf hp
    go_wp2_with fail
    refine region_tail 7 (by kernel_rfl) (by kernel_rfl) ?_
    simp only [List.take_succ_cons, List.take_zero, List.drop_succ_cons, List.drop_zero]
    repeat still_step
    refine wpStill_nil ?_
    clear i0 i1 i2 i3 i4 i5 i6
    go_wp2_with fail
    have HT5 := Lib.hid (HT4.out.stored (o := k * 14 + 7) (j := 2 * k + 1) (by omega) (by rw [HL.out]; omega) x).drew
    have HG5 := Lib.hid (grown_trans (grown_below HB4.out _) (grown_storeE w4 bs (k * 14 + 7) x)).trans_drew
    have E5 := Lib.hid (((grown_storeE w4 bs (k * 14 + 7) x).trans_drew.block _ (Array.getElem?_eq_some_iff.1 E4.out).1 (by simpa using hne)).trans E4.out)
    unfold storeE at HT5 HG5 E5
    rw [hu] at HT5 HG5 E5
    clear E4 HB4 f0 f1 f2 f3 f4 f5 f6 g0 g1 g2 g3 g4 g5 g6 fr
    generalize (((((((w4.setCell ⟨bs, k * 14 + 7, none⟩ (.bool false)).setCell ⟨bs, k * 14 + 7 + 1, none⟩ (.string x.k)).setCell ⟨bs, k * 14 + 7 + 2, none⟩ (.int .i64 x.d)).setCell ⟨bs, k * 14 + 7 + 3, none⟩ (.int .i64 x.b.a)).setCell ⟨bs, k * 14 + 7 + 4, none⟩ (.int .i64 x.b.b)).setCell ⟨bs, k * 14 + 7 + 5, none⟩ (.int .i64 x.b.c)).setCell ⟨bs, k * 14 + 7 + 6, none⟩ (.int .i64 x.b.e)).drew = w5 at *
    obtain ⟨f0, f1, f2, f3, f4, f5, f6⟩ := (HT5.out.two (k := k) (x := x) (y := x) (by rw [List.getElem?_set_ne (by omega)]; exact HX.out) (by rw [List.getElem?_set_self (by rw [HL.out]; omega)])).fst
    have i0 := cell_blk E5.out 0
    have i1 := cell_blk E5.out 1
    have i2 := cell_blk E5.out 2
    have i3 := cell_blk E5.out 3
    have i4 := cell_blk E5.out 4
    have i5 := cell_blk E5.out 5
    have i6 := cell_blk E5.out 6
    have fr : ∀ o, w5.frozen? ⟨bs, o, none⟩ = false := fun o => HT5.out.own.frozenAt o
    go_wp2_with fail
    refine region_tail 4 (by kernel_rfl) (by kernel_rfl) ?_
    simp only [List.take_succ_cons, List.take_zero, List.drop_succ_cons, List.drop_zero]
    repeat still_step
    refine wpStill_nil ?_
    clear i0 i1 i2 i3 i4 i5 i6
    go_wp2_with fail
    go_end0
    exact put_end2 HT5.out HG5.out ⟨true, key, d, ⟨a, b, c, e⟩⟩ (o := k * 14) (j := 2 * k) (by omega) (by rw [List.length_set, HL.out]; omega) HP.out
end Go.Proofs.YtggffmbhpgioaaaDoor
