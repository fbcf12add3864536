/- The walk of the slot's find with Put's condition. -/
import Derived.Test.YtggffmbhpgioaaaDoorZe
import Derived.Deep.LoopGhost
import Derived.BigRegion
import Derived.Deep.RegionHeld3
import Derived.Deep.QuietTactic
import Derived.BigQuiet
import Derived.StillTailTactics
namespace Go.Proofs.YtggffmbhpgioaaaDoor
open Go Go.RowKit Go.Shelf
set_option linter.unusedSimpArgs false

/-- the index of the first entry of a slot that is full and satisfies a condition, or -1 -/
def findF (p : En → Bool) (x y : En) : Int := if x.u && p x then 0 else if y.u && p y then 1 else -1
/-- two entries lie at an address -/
def Two (w : World) (g o : Nat) (x y : En) : Prop := g < w.heap.size ∧ ∀ (i : Nat) (u : Value), (enCells x ++ enCells y)[i]? = some u → w.cell? ⟨g, o + i, none⟩ = some u
theorem Two.below {w w' : World} {g o : Nat} {x y : En} (h : Two w g o x y) (hb : Below w.heap.size w w') : Two w' g o x y :=
  ⟨Nat.lt_of_lt_of_le h.1 hb.size, fun i u hu => (hb.cell (p := ⟨g, o + i, none⟩) h.1).trans (h.2 i u hu)⟩
theorem Two.alloc {w : World} {g o : Nat} {x y : En} (h : Two w g o x y) (z : Obj) : Two (w.alloc z) g o x y := h.below ((Below.refl _ _).alloc (Nat.le_refl _) z)
/-- an entry lies at an address -/
def One (w : World) (g o : Nat) (x : En) : Prop :=
  w.cell? ⟨g, o, none⟩ = some (.bool x.u) ∧ w.cell? ⟨g, o + 1, none⟩ = some (.string x.k) ∧ w.cell? ⟨g, o + 2, none⟩ = some (.int .i64 x.d) ∧
    w.cell? ⟨g, o + 3, none⟩ = some (.int .i64 x.b.a) ∧ w.cell? ⟨g, o + 4, none⟩ = some (.int .i64 x.b.b) ∧ w.cell? ⟨g, o + 5, none⟩ = some (.int .i64 x.b.c) ∧ w.cell? ⟨g, o + 6, none⟩ = some (.int .i64 x.b.e)
theorem Two.fst {w : World} {g o : Nat} {x y : En} (h : Two w g o x y) : One w g o x :=
  ⟨h.2 0 _ rfl, h.2 1 _ rfl, h.2 2 _ rfl, h.2 3 _ rfl, h.2 4 _ rfl, h.2 5 _ rfl, h.2 6 _ rfl⟩
theorem Two.snd {w : World} {g o : Nat} {x y : En} (h : Two w g o x y) : One w g (o + 7) y :=
  ⟨h.2 7 _ rfl, h.2 8 _ rfl, h.2 9 _ rfl, h.2 10 _ rfl, h.2 11 _ rfl, h.2 12 _ rfl, h.2 13 _ rfl⟩
/-- the same behind any new block, each cell by itself -/
theorem One.al {w : World} {g o : Nat} {x : En} (h : ∀ z, One (w.alloc z) g o x) :
    (∀ z, (w.alloc z).cell? ⟨g, o, none⟩ = some (.bool x.u)) ∧ (∀ z, (w.alloc z).cell? ⟨g, o + 1, none⟩ = some (.string x.k)) ∧ (∀ z, (w.alloc z).cell? ⟨g, o + 2, none⟩ = some (.int .i64 x.d)) ∧
    (∀ z, (w.alloc z).cell? ⟨g, o + 3, none⟩ = some (.int .i64 x.b.a)) ∧ (∀ z, (w.alloc z).cell? ⟨g, o + 4, none⟩ = some (.int .i64 x.b.b)) ∧ (∀ z, (w.alloc z).cell? ⟨g, o + 5, none⟩ = some (.int .i64 x.b.c)) ∧ (∀ z, (w.alloc z).cell? ⟨g, o + 6, none⟩ = some (.int .i64 x.b.e)) :=
  ⟨fun z => (h z).1, fun z => (h z).2.1, fun z => (h z).2.2.1, fun z => (h z).2.2.2.1, fun z => (h z).2.2.2.2.1, fun z => (h z).2.2.2.2.2.1, fun z => (h z).2.2.2.2.2.2⟩

def pkey (key : ByteArray) (e : En) : Bool := e.k.toList == key.toList
def pfit (key : ByteArray) (n : Int) (e : En) : Bool := fitB e key n
theorem findF_eq (p : En → Bool) (x y : En) : findF p x y = if x.u && p x then 0 else if y.u && p y then 1 else -1 := rfl
/-- what the condition reads -/
def pfindK (w : World) (key : ByteArray) (kb : Nat) : Prop := w.cell? ⟨kb, 0, none⟩ = some (.string key)
theorem pfindK.below {w w' : World} {key : ByteArray} {kb : Nat} (h : pfindK w key kb) (hb : Below w.heap.size w w') : pfindK w' key kb := by
  unfold pfindK at *
  first
    | exact (hb.cell (World.block_lt_of_cell? _ _ h)).trans h
    | exact ⟨(hb.cell (World.block_lt_of_cell? _ _ h.1)).trans h.1, (hb.cell (World.block_lt_of_cell? _ _ h.2)).trans h.2⟩
theorem pfindK.call {w : World} {key : ByteArray} {kb : Nat} (h : pfindK w key kb) (x : En) : Calls Tryd.prog 33 #[enV x, .pointer (some ⟨kb, 0, none⟩)] w (OutB w (.bool ((pkey key) x))) := pclo_any w x key kb h
set_option maxHeartbeats 4000000 in
set_option maxRecDepth 100000 in
theorem pfind_any (w : World) (x y : En) (key : ByteArray) (kb : Nat) (g o : Nat) (hk : pfindK w key kb) (hs : Two w g o x y) :
    Calls Tryd.prog 32 #[.pointer (some ⟨g, o, none⟩), .func (.func 33) #[] #[.pointer (some ⟨kb, 0, none⟩)]] w (OutB w (.int .i64 (findF ((pkey key)) x y))) := by
  have CX := Lib.hid (fun (w : World) (h : pfindK w key kb) => h.call x)
  have CY := Lib.hid (fun (w : World) (h : pfindK w key kb) => h.call y)
  have HR := Lib.hid (findF_eq ((pkey key)) x y)
  generalize (pkey key) x = px at *
  generalize (pkey key) y = py at *
  generalize findF ((pkey key)) x y = rr at *
  obtain ⟨xu, xk, xd, ⟨xa, xb, xc, xe⟩⟩ := x
  obtain ⟨yu, yk, yd, ⟨ya, yb, yc, ye⟩⟩ := y
  unfold enV at CX CY
  simp only at CX CY HR
  have HS := Lib.hid hs
  have HK := Lib.hid hk
  have HB0 := Lib.hid (Below.refl w.heap.size w)
  obtain ⟨c0, c1, c2, c3, c4, c5, c6⟩ := hs.fst
  obtain ⟨a0, a1, a2, a3, a4, a5, a6⟩ := One.al fun z => (hs.alloc z).fst
  clear hs hk
  cases xu
  focus
    go_enter Tryd.func32, Tryd.ntmps32
    go_wp2_with fail
    refine wp_loop_rounds 3 ?_
    rw [rounds_succ]
    go_wp2_with fail
    go_region
    clear c0 c1 c2 c3 c4 c5 c6 a0 a1 a2 a3 a4 a5 a6
    have HB1 := Lib.hid (Below.drew (HB0.out.alloc (Nat.le_refl _) (.cells #[.bool false, .string xk, .int .i64 xd, .int .i64 xa, .int .i64 xb, .int .i64 xc, .int .i64 xe] 76)))
    have HS1 := Lib.hid (HS.out.below HB1.out)
    have HK1 := Lib.hid (HK.out.below HB1.out)
    go_wp2_with fail
    generalize (w.alloc (.cells #[.bool false, .string xk, .int .i64 xd, .int .i64 xa, .int .i64 xb, .int .i64 xc, .int .i64 xe] 76)).drew = w1 at *
    cases yu
    focus
      rw [rounds_succ]
      obtain ⟨c0, c1, c2, c3, c4, c5, c6⟩ := HS1.out.snd
      obtain ⟨a0, a1, a2, a3, a4, a5, a6⟩ := One.al fun z => (HS1.out.alloc z).snd
      go_wp2_with fail
      go_region
      clear c0 c1 c2 c3 c4 c5 c6 a0 a1 a2 a3 a4 a5 a6
      have HB2 := Lib.hid (HB1.out.trans (Below.drew ((Below.refl w.heap.size w1).alloc HB1.out.size (.cells #[.bool false, .string yk, .int .i64 yd, .int .i64 ya, .int .i64 yb, .int .i64 yc, .int .i64 ye] 76))))
      have HK2 := Lib.hid (HK1.out.below (Below.drew ((Below.refl w1.heap.size w1).alloc (Nat.le_refl _) (.cells #[.bool false, .string yk, .int .i64 yd, .int .i64 ya, .int .i64 yb, .int .i64 yc, .int .i64 ye] 76))))
      go_wp2_with fail
      generalize (w1.alloc (.cells #[.bool false, .string yk, .int .i64 yd, .int .i64 ya, .int .i64 yb, .int .i64 yc, .int .i64 ye] 76)).drew = w2 at *
      rw [rounds_succ]
      go_wp2_with fail
      go_ret
      exact ⟨by rw [HR.out]; rfl, HB2.out⟩
    rotate_left
    cases py
    focus
      rw [rounds_succ]
      obtain ⟨c0, c1, c2, c3, c4, c5, c6⟩ := HS1.out.snd
      obtain ⟨a0, a1, a2, a3, a4, a5, a6⟩ := One.al fun z => (HS1.out.alloc z).snd
      go_wp2_with fail
      go_region
      clear c0 c1 c2 c3 c4 c5 c6 a0 a1 a2 a3 a4 a5 a6
      have HB2 := Lib.hid (HB1.out.trans (Below.drew ((Below.refl w.heap.size w1).alloc HB1.out.size (.cells #[.bool true, .string yk, .int .i64 yd, .int .i64 ya, .int .i64 yb, .int .i64 yc, .int .i64 ye] 76))))
      have HK2 := Lib.hid (HK1.out.below (Below.drew ((Below.refl w1.heap.size w1).alloc (Nat.le_refl _) (.cells #[.bool true, .string yk, .int .i64 yd, .int .i64 ya, .int .i64 yb, .int .i64 yc, .int .i64 ye] 76))))
      go_wp2_with fail
      generalize (w1.alloc (.cells #[.bool true, .string yk, .int .i64 yd, .int .i64 ya, .int .i64 yb, .int .i64 yc, .int .i64 ye] 76)).drew = w2 at *
      refine (CY.out _ HK2.out).mono ?_
      rintro e w3 ⟨rfl, hb⟩
      replace HB2 := Lib.hid (HB2.out.trans (hb.mono HB2.out.size))
      clear hb
      go_wp2_with fail
      rw [rounds_succ]
      go_wp2_with fail
      go_ret
      exact ⟨by rw [HR.out]; rfl, HB2.out⟩
    rw [rounds_succ]
    obtain ⟨c0, c1, c2, c3, c4, c5, c6⟩ := HS1.out.snd
    obtain ⟨a0, a1, a2, a3, a4, a5, a6⟩ := One.al fun z => (HS1.out.alloc z).snd
    go_wp2_with fail
    go_region
    clear c0 c1 c2 c3 c4 c5 c6 a0 a1 a2 a3 a4 a5 a6
    have HB2 := Lib.hid (HB1.out.trans (Below.drew ((Below.refl w.heap.size w1).alloc HB1.out.size (.cells #[.bool true, .string yk, .int .i64 yd, .int .i64 ya, .int .i64 yb, .int .i64 yc, .int .i64 ye] 76))))
    have HK2 := Lib.hid (HK1.out.below (Below.drew ((Below.refl w1.heap.size w1).alloc (Nat.le_refl _) (.cells #[.bool true, .string yk, .int .i64 yd, .int .i64 ya, .int .i64 yb, .int .i64 yc, .int .i64 ye] 76))))
    go_wp2_with fail
    generalize (w1.alloc (.cells #[.bool true, .string yk, .int .i64 yd, .int .i64 ya, .int .i64 yb, .int .i64 yc, .int .i64 ye] 76)).drew = w2 at *
    refine (CY.out _ HK2.out).mono ?_
    rintro e w3 ⟨rfl, hb⟩
    replace HB2 := Lib.hid (HB2.out.trans (hb.mono HB2.out.size))
    clear hb
    go_wp2_with fail
    go_ret
    exact ⟨by rw [HR.out]; rfl, HB2.out⟩
  rotate_left
  cases px
  focus
    go_enter Tryd.func32, Tryd.ntmps32
    go_wp2_with fail
    refine wp_loop_rounds 3 ?_
    rw [rounds_succ]
    go_wp2_with fail
    go_region
    clear c0 c1 c2 c3 c4 c5 c6 a0 a1 a2 a3 a4 a5 a6
    have HB1 := Lib.hid (Below.drew (HB0.out.alloc (Nat.le_refl _) (.cells #[.bool true, .string xk, .int .i64 xd, .int .i64 xa, .int .i64 xb, .int .i64 xc, .int .i64 xe] 76)))
    have HS1 := Lib.hid (HS.out.below HB1.out)
    have HK1 := Lib.hid (HK.out.below HB1.out)
    go_wp2_with fail
    generalize (w.alloc (.cells #[.bool true, .string xk, .int .i64 xd, .int .i64 xa, .int .i64 xb, .int .i64 xc, .int .i64 xe] 76)).drew = w0 at *
    refine (CX.out _ HK1.out).mono ?_
    rintro e w1 ⟨rfl, hb⟩
    replace HS1 := Lib.hid (HS1.out.below hb)
    replace HK1 := Lib.hid (HK1.out.below hb)
    replace HB1 := Lib.hid (HB1.out.trans (hb.mono HB1.out.size))
    clear hb
    go_wp2_with fail
    cases yu
    focus
      rw [rounds_succ]
      obtain ⟨c0, c1, c2, c3, c4, c5, c6⟩ := HS1.out.snd
      obtain ⟨a0, a1, a2, a3, a4, a5, a6⟩ := One.al fun z => (HS1.out.alloc z).snd
      go_wp2_with fail
      go_region
      clear c0 c1 c2 c3 c4 c5 c6 a0 a1 a2 a3 a4 a5 a6
      have HB2 := Lib.hid (HB1.out.trans (Below.drew ((Below.refl w.heap.size w1).alloc HB1.out.size (.cells #[.bool false, .string yk, .int .i64 yd, .int .i64 ya, .int .i64 yb, .int .i64 yc, .int .i64 ye] 76))))
      have HK2 := Lib.hid (HK1.out.below (Below.drew ((Below.refl w1.heap.size w1).alloc (Nat.le_refl _) (.cells #[.bool false, .string yk, .int .i64 yd, .int .i64 ya, .int .i64 yb, .int .i64 yc, .int .i64 ye] 76))))
      go_wp2_with fail
      generalize (w1.alloc (.cells #[.bool false, .string yk, .int .i64 yd, .int .i64 ya, .int .i64 yb, .int .i64 yc, .int .i64 ye] 76)).drew = w2 at *
      rw [rounds_succ]
      go_wp2_with fail
      go_ret
      exact ⟨by rw [HR.out]; rfl, HB2.out⟩
    rotate_left
    cases py
    focus
      rw [rounds_succ]
      obtain ⟨c0, c1, c2, c3, c4, c5, c6⟩ := HS1.out.snd
      obtain ⟨a0, a1, a2, a3, a4, a5, a6⟩ := One.al fun z => (HS1.out.alloc z).snd
      go_wp2_with fail
      go_region
      clear c0 c1 c2 c3 c4 c5 c6 a0 a1 a2 a3 a4 a5 a6
      have HB2 := Lib.hid (HB1.out.trans (Below.drew ((Below.refl w.heap.size w1).alloc HB1.out.size (.cells #[.bool true, .string yk, .int .i64 yd, .int .i64 ya, .int .i64 yb, .int .i64 yc, .int .i64 ye] 76))))
      have HK2 := Lib.hid (HK1.out.below (Below.drew ((Below.refl w1.heap.size w1).alloc (Nat.le_refl _) (.cells #[.bool true, .string yk, .int .i64 yd, .int .i64 ya, .int .i64 yb, .int .i64 yc, .int .i64 ye] 76))))
      go_wp2_with fail
      generalize (w1.alloc (.cells #[.bool true, .string yk, .int .i64 yd, .int .i64 ya, .int .i64 yb, .int .i64 yc, .int .i64 ye] 76)).drew = w2 at *
      refine (CY.out _ HK2.out).mono ?_
      rintro e w3 ⟨rfl, hb⟩
      replace HB2 := Lib.hid (HB2.out.trans (hb.mono HB2.out.size))
      clear hb
      go_wp2_with fail
      rw [rounds_succ]
      go_wp2_with fail
      go_ret
      exact ⟨by rw [HR.out]; rfl, HB2.out⟩
    rw [rounds_succ]
    obtain ⟨c0, c1, c2, c3, c4, c5, c6⟩ := HS1.out.snd
    obtain ⟨a0, a1, a2, a3, a4, a5, a6⟩ := One.al fun z => (HS1.out.alloc z).snd
    go_wp2_with fail
    go_region
    clear c0 c1 c2 c3 c4 c5 c6 a0 a1 a2 a3 a4 a5 a6
    have HB2 := Lib.hid (HB1.out.trans (Below.drew ((Below.refl w.heap.size w1).alloc HB1.out.size (.cells #[.bool true, .string yk, .int .i64 yd, .int .i64 ya, .int .i64 yb, .int .i64 yc, .int .i64 ye] 76))))
    have HK2 := Lib.hid (HK1.out.below (Below.drew ((Below.refl w1.heap.size w1).alloc (Nat.le_refl _) (.cells #[.bool true, .string yk, .int .i64 yd, .int .i64 ya, .int .i64 yb, .int .i64 yc, .int .i64 ye] 76))))
    go_wp2_with fail
    generalize (w1.alloc (.cells #[.bool true, .string yk, .int .i64 yd, .int .i64 ya, .int .i64 yb, .int .i64 yc, .int .i64 ye] 76)).drew = w2 at *
    refine (CY.out _ HK2.out).mono ?_
    rintro e w3 ⟨rfl, hb⟩
    replace HB2 := Lib.hid (HB2.out.trans (hb.mono HB2.out.size))
    clear hb
    go_wp2_with fail
    go_ret
    exact ⟨by rw [HR.out]; rfl, HB2.out⟩
  go_enter Tryd.func32, Tryd.ntmps32
  go_wp2_with fail
  refine wp_loop_rounds 3 ?_
  rw [rounds_succ]
  go_wp2_with fail
  go_region
  clear c0 c1 c2 c3 c4 c5 c6 a0 a1 a2 a3 a4 a5 a6
  have HB1 := Lib.hid (Below.drew (HB0.out.alloc (Nat.le_refl _) (.cells #[.bool true, .string xk, .int .i64 xd, .int .i64 xa, .int .i64 xb, .int .i64 xc, .int .i64 xe] 76)))
  have HK1 := Lib.hid (HK.out.below HB1.out)
  go_wp2_with fail
  generalize (w.alloc (.cells #[.bool true, .string xk, .int .i64 xd, .int .i64 xa, .int .i64 xb, .int .i64 xc, .int .i64 xe] 76)).drew = w0 at *
  refine (CX.out _ HK1.out).mono ?_
  rintro e w1 ⟨rfl, hb⟩
  replace HB1 := Lib.hid (HB1.out.trans (hb.mono HB1.out.size))
  clear hb
  go_wp2_with fail
  go_ret
  exact ⟨by rw [HR.out]; rfl, HB1.out⟩
/-- what the condition reads -/
def gfindK (w : World) (key : ByteArray) (n : Int) (kb nb : Nat) : Prop := w.cell? ⟨kb, 0, none⟩ = some (.string key) ∧ w.cell? ⟨nb, 0, none⟩ = some (.int .i64 n)
theorem gfindK.below {w w' : World} {key : ByteArray} {n : Int} {kb nb : Nat} (h : gfindK w key n kb nb) (hb : Below w.heap.size w w') : gfindK w' key n kb nb := by
  unfold gfindK at *
  first
    | exact (hb.cell (World.block_lt_of_cell? _ _ h)).trans h
    | exact ⟨(hb.cell (World.block_lt_of_cell? _ _ h.1)).trans h.1, (hb.cell (World.block_lt_of_cell? _ _ h.2)).trans h.2⟩
theorem gfindK.call {w : World} {key : ByteArray} {n : Int} {kb nb : Nat} (h : gfindK w key n kb nb) (x : En) : Calls Tryd.prog 34 #[enV x, .pointer (some ⟨kb, 0, none⟩), .pointer (some ⟨nb, 0, none⟩)] w (OutB w (.bool ((pfit key n) x))) := gclo_any w x key n kb nb h.1 h.2
set_option maxHeartbeats 4000000 in
set_option maxRecDepth 100000 in
theorem gfind_any (w : World) (x y : En) (key : ByteArray) (n : Int) (kb nb : Nat) (g o : Nat) (hk : gfindK w key n kb nb) (hs : Two w g o x y) :
    Calls Tryd.prog 32 #[.pointer (some ⟨g, o, none⟩), .func (.func 34) #[] #[.pointer (some ⟨kb, 0, none⟩), .pointer (some ⟨nb, 0, none⟩)]] w (OutB w (.int .i64 (findF ((pfit key n)) x y))) := by
  have CX := Lib.hid (fun (w : World) (h : gfindK w key n kb nb) => h.call x)
  have CY := Lib.hid (fun (w : World) (h : gfindK w key n kb nb) => h.call y)
  have HR := Lib.hid (findF_eq ((pfit key n)) x y)
  generalize (pfit key n) x = px at *
  generalize (pfit key n) y = py at *
  generalize findF ((pfit key n)) x y = rr at *
  obtain ⟨xu, xk, xd, ⟨xa, xb, xc, xe⟩⟩ := x
  obtain ⟨yu, yk, yd, ⟨ya, yb, yc, ye⟩⟩ := y
  unfold enV at CX CY
  simp only at CX CY HR
  have HS := Lib.hid hs
  have HK := Lib.hid hk
  have HB0 := Lib.hid (Below.refl w.heap.size w)
  obtain ⟨c0, c1, c2, c3, c4, c5, c6⟩ := hs.fst
  obtain ⟨a0, a1, a2, a3, a4, a5, a6⟩ := One.al fun z => (hs.alloc z).fst
  clear hs hk
  cases xu
  focus
    go_enter Tryd.func32, Tryd.ntmps32
    go_wp2_with fail
    refine wp_loop_rounds 3 ?_
    rw [rounds_succ]
    go_wp2_with fail
    go_region
    clear c0 c1 c2 c3 c4 c5 c6 a0 a1 a2 a3 a4 a5 a6
    have HB1 := Lib.hid (Below.drew (HB0.out.alloc (Nat.le_refl _) (.cells #[.bool false, .string xk, .int .i64 xd, .int .i64 xa, .int .i64 xb, .int .i64 xc, .int .i64 xe] 76)))
    have HS1 := Lib.hid (HS.out.below HB1.out)
    have HK1 := Lib.hid (HK.out.below HB1.out)
    go_wp2_with fail
    generalize (w.alloc (.cells #[.bool false, .string xk, .int .i64 xd, .int .i64 xa, .int .i64 xb, .int .i64 xc, .int .i64 xe] 76)).drew = w1 at *
    cases yu
    focus
      rw [rounds_succ]
      obtain ⟨c0, c1, c2, c3, c4, c5, c6⟩ := HS1.out.snd
      obtain ⟨a0, a1, a2, a3, a4, a5, a6⟩ := One.al fun z => (HS1.out.alloc z).snd
      go_wp2_with fail
      go_region
      clear c0 c1 c2 c3 c4 c5 c6 a0 a1 a2 a3 a4 a5 a6
      have HB2 := Lib.hid (HB1.out.trans (Below.drew ((Below.refl w.heap.size w1).alloc HB1.out.size (.cells #[.bool false, .string yk, .int .i64 yd, .int .i64 ya, .int .i64 yb, .int .i64 yc, .int .i64 ye] 76))))
      have HK2 := Lib.hid (HK1.out.below (Below.drew ((Below.refl w1.heap.size w1).alloc (Nat.le_refl _) (.cells #[.bool false, .string yk, .int .i64 yd, .int .i64 ya, .int .i64 yb, .int .i64 yc, .int .i64 ye] 76))))
      go_wp2_with fail
      generalize (w1.alloc (.cells #[.bool false, .string yk, .int .i64 yd, .int .i64 ya, .int .i64 yb, .int .i64 yc, .int .i64 ye] 76)).drew = w2 at *
      rw [rounds_succ]
      go_wp2_with fail
      go_ret
      exact ⟨by rw [HR.out]; rfl, HB2.out⟩
    rotate_left
    cases py
    focus
      rw [rounds_succ]
      obtain ⟨c0, c1, c2, c3, c4, c5, c6⟩ := HS1.out.snd
      obtain ⟨a0, a1, a2, a3, a4, a5, a6⟩ := One.al fun z => (HS1.out.alloc z).snd
      go_wp2_with fail
      go_region
      clear c0 c1 c2 c3 c4 c5 c6 a0 a1 a2 a3 a4 a5 a6
      have HB2 := Lib.hid (HB1.out.trans (Below.drew ((Below.refl w.heap.size w1).alloc HB1.out.size (.cells #[.bool true, .string yk, .int .i64 yd, .int .i64 ya, .int .i64 yb, .int .i64 yc, .int .i64 ye] 76))))
      have HK2 := Lib.hid (HK1.out.below (Below.drew ((Below.refl w1.heap.size w1).alloc (Nat.le_refl _) (.cells #[.bool true, .string yk, .int .i64 yd, .int .i64 ya, .int .i64 yb, .int .i64 yc, .int .i64 ye] 76))))
      go_wp2_with fail
      generalize (w1.alloc (.cells #[.bool true, .string yk, .int .i64 yd, .int .i64 ya, .int .i64 yb, .int .i64 yc, .int .i64 ye] 76)).drew = w2 at *
      refine (CY.out _ HK2.out).mono ?_
      rintro e w3 ⟨rfl, hb⟩
      replace HB2 := Lib.hid (HB2.out.trans (hb.mono HB2.out.size))
      clear hb
      go_wp2_with fail
      rw [rounds_succ]
      go_wp2_with fail
      go_ret
      exact ⟨by rw [HR.out]; rfl, HB2.out⟩
    rw [rounds_succ]
    obtain ⟨c0, c1, c2, c3, c4, c5, c6⟩ := HS1.out.snd
    obtain ⟨a0, a1, a2, a3, a4, a5, a6⟩ := One.al fun z => (HS1.out.alloc z).snd
    go_wp2_with fail
    go_region
    clear c0 c1 c2 c3 c4 c5 c6 a0 a1 a2 a3 a4 a5 a6
    have HB2 := Lib.hid (HB1.out.trans (Below.drew ((Below.refl w.heap.size w1).alloc HB1.out.size (.cells #[.bool true, .string yk, .int .i64 yd, .int .i64 ya, .int .i64 yb, .int .i64 yc, .int .i64 ye] 76))))
    have HK2 := Lib.hid (HK1.out.below (Below.drew ((Below.refl w1.heap.size w1).alloc (Nat.le_refl _) (.cells #[.bool true, .string yk, .int .i64 yd, .int .i64 ya, .int .i64 yb, .int .i64 yc, .int .i64 ye] 76))))
    go_wp2_with fail
    generalize (w1.alloc (.cells #[.bool true, .string yk, .int .i64 yd, .int .i64 ya, .int .i64 yb, .int .i64 yc, .int .i64 ye] 76)).drew = w2 at *
    refine (CY.out _ HK2.out).mono ?_
    rintro e w3 ⟨rfl, hb⟩
    replace HB2 := Lib.hid (HB2.out.trans (hb.mono HB2.out.size))
    clear hb
    go_wp2_with fail
    go_ret
    exact ⟨by rw [HR.out]; rfl, HB2.out⟩
  rotate_left
  cases px
  focus
    go_enter Tryd.func32, Tryd.ntmps32
    go_wp2_with fail
    refine wp_loop_rounds 3 ?_
    rw [rounds_succ]
    go_wp2_with fail
    go_region
    clear c0 c1 c2 c3 c4 c5 c6 a0 a1 a2 a3 a4 a5 a6
    have HB1 := Lib.hid (Below.drew (HB0.out.alloc (Nat.le_refl _) (.cells #[.bool true, .string xk, .int .i64 xd, .int .i64 xa, .int .i64 xb, .int .i64 xc, .int .i64 xe] 76)))
    have HS1 := Lib.hid (HS.out.below HB1.out)
    have HK1 := Lib.hid (HK.out.below HB1.out)
    go_wp2_with fail
    generalize (w.alloc (.cells #[.bool true, .string xk, .int .i64 xd, .int .i64 xa, .int .i64 xb, .int .i64 xc, .int .i64 xe] 76)).drew = w0 at *
    refine (CX.out _ HK1.out).mono ?_
    rintro e w1 ⟨rfl, hb⟩
    replace HS1 := Lib.hid (HS1.out.below hb)
    replace HK1 := Lib.hid (HK1.out.below hb)
    replace HB1 := Lib.hid (HB1.out.trans (hb.mono HB1.out.size))
    clear hb
    go_wp2_with fail
    cases yu
    focus
      rw [rounds_succ]
      obtain ⟨c0, c1, c2, c3, c4, c5, c6⟩ := HS1.out.snd
      obtain ⟨a0, a1, a2, a3, a4, a5, a6⟩ := One.al fun z => (HS1.out.alloc z).snd
      go_wp2_with fail
      go_region
      clear c0 c1 c2 c3 c4 c5 c6 a0 a1 a2 a3 a4 a5 a6
      have HB2 := Lib.hid (HB1.out.trans (Below.drew ((Below.refl w.heap.size w1).alloc HB1.out.size (.cells #[.bool false, .string yk, .int .i64 yd, .int .i64 ya, .int .i64 yb, .int .i64 yc, .int .i64 ye] 76))))
      have HK2 := Lib.hid (HK1.out.below (Below.drew ((Below.refl w1.heap.size w1).alloc (Nat.le_refl _) (.cells #[.bool false, .string yk, .int .i64 yd, .int .i64 ya, .int .i64 yb, .int .i64 yc, .int .i64 ye] 76))))
      go_wp2_with fail
      generalize (w1.alloc (.cells #[.bool false, .string yk, .int .i64 yd, .int .i64 ya, .int .i64 yb, .int .i64 yc, .int .i64 ye] 76)).drew = w2 at *
      rw [rounds_succ]
      go_wp2_with fail
      go_ret
      exact ⟨by rw [HR.out]; rfl, HB2.out⟩
    rotate_left
    cases py
    focus
      rw [rounds_succ]
      obtain ⟨c0, c1, c2, c3, c4, c5, c6⟩ := HS1.out.snd
      obtain ⟨a0, a1, a2, a3, a4, a5, a6⟩ := One.al fun z => (HS1.out.alloc z).snd
      go_wp2_with fail
      go_region
      clear c0 c1 c2 c3 c4 c5 c6 a0 a1 a2 a3 a4 a5 a6
      have HB2 := Lib.hid (HB1.out.trans (Below.drew ((Below.refl w.heap.size w1).alloc HB1.out.size (.cells #[.bool true, .string yk, .int .i64 yd, .int .i64 ya, .int .i64 yb, .int .i64 yc, .int .i64 ye] 76))))
      have HK2 := Lib.hid (HK1.out.below (Below.drew ((Below.refl w1.heap.size w1).alloc (Nat.le_refl _) (.cells #[.bool true, .string yk, .int .i64 yd, .int .i64 ya, .int .i64 yb, .int .i64 yc, .int .i64 ye] 76))))
      go_wp2_with fail
      generalize (w1.alloc (.cells #[.bool true, .string yk, .int .i64 yd, .int .i64 ya, .int .i64 yb, .int .i64 yc, .int .i64 ye] 76)).drew = w2 at *
      refine (CY.out _ HK2.out).mono ?_
      rintro e w3 ⟨rfl, hb⟩
      replace HB2 := Lib.hid (HB2.out.trans (hb.mono HB2.out.size))
      clear hb
      go_wp2_with fail
      rw [rounds_succ]
      go_wp2_with fail
      go_ret
      exact ⟨by rw [HR.out]; rfl, HB2.out⟩
    rw [rounds_succ]
    obtain ⟨c0, c1, c2, c3, c4, c5, c6⟩ := HS1.out.snd
    obtain ⟨a0, a1, a2, a3, a4, a5, a6⟩ := One.al fun z => (HS1.out.alloc z).snd
    go_wp2_with fail
    go_region
    clear c0 c1 c2 c3 c4 c5 c6 a0 a1 a2 a3 a4 a5 a6
    have HB2 := Lib.hid (HB1.out.trans (Below.drew ((Below.refl w.heap.size w1).alloc HB1.out.size (.cells #[.bool true, .string yk, .int .i64 yd, .int .i64 ya, .int .i64 yb, .int .i64 yc, .int .i64 ye] 76))))
    have HK2 := Lib.hid (HK1.out.below (Below.drew ((Below.refl w1.heap.size w1).alloc (Nat.le_refl _) (.cells #[.bool true, .string yk, .int .i64 yd, .int .i64 ya, .int .i64 yb, .int .i64 yc, .int .i64 ye] 76))))
    go_wp2_with fail
    generalize (w1.alloc (.cells #[.bool true, .string yk, .int .i64 yd, .int .i64 ya, .int .i64 yb, .int .i64 yc, .int .i64 ye] 76)).drew = w2 at *
    refine (CY.out _ HK2.out).mono ?_
    rintro e w3 ⟨rfl, hb⟩
    replace HB2 := Lib.hid (HB2.out.trans (hb.mono HB2.out.size))
    clear hb
    go_wp2_with fail
    go_ret
    exact ⟨by rw [HR.out]; rfl, HB2.out⟩
  go_enter Tryd.func32, Tryd.ntmps32
  go_wp2_with fail
  refine wp_loop_rounds 3 ?_
  rw [rounds_succ]
  go_wp2_with fail
  go_region
  clear c0 c1 c2 c3 c4 c5 c6 a0 a1 a2 a3 a4 a5 a6
  have HB1 := Lib.hid (Below.drew (HB0.out.alloc (Nat.le_refl _) (.cells #[.bool true, .string xk, .int .i64 xd, .int .i64 xa, .int .i64 xb, .int .i64 xc, .int .i64 xe] 76)))
  have HK1 := Lib.hid (HK.out.below HB1.out)
  go_wp2_with fail
  generalize (w.alloc (.cells #[.bool true, .string xk, .int .i64 xd, .int .i64 xa, .int .i64 xb, .int .i64 xc, .int .i64 xe] 76)).drew = w0 at *
  refine (CX.out _ HK1.out).mono ?_
  rintro e w1 ⟨rfl, hb⟩
  replace HB1 := Lib.hid (HB1.out.trans (hb.mono HB1.out.size))
  clear hb
  go_wp2_with fail
  go_ret
  exact ⟨by rw [HR.out]; rfl, HB1.out⟩
end Go.Proofs.YtggffmbhpgioaaaDoor
