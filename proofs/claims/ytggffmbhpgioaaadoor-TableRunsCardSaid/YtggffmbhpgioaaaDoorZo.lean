/- The walks of the reference's with, New, Clear and Len. -/
import Derived.Test.YtggffmbhpgioaaaDoorZn
namespace Go.Proofs.YtggffmbhpgioaaaDoor
open Go Go.RowKit Go.Shelf
set_option linter.unusedSimpArgs false

theorem own_store7 {w : World} {base : Nat} {e : TypeId} {g n sz cap : Nat} {T : List En} (h : w.ownsRow base e sz (.slice (some ⟨g, 0, none⟩) n cap) n (T.flatMap enCells)) (j : Nat) (hj : j < T.length) (x : En) :
    (storeE w g (j * 7) x).ownsRow base e sz (.slice (some ⟨g, 0, none⟩) n cap) n ((T.set j x).flatMap enCells) := by
  rw [← fm_set T j x hj]
  exact (((((((h.stored _ _).1.stored _ _).1.stored _ _).1.stored _ _).1.stored _ _).1.stored _ _).1.stored _ _).1
theorem below_storeE {B : Nat} {a w : World} {g : Nat} (h : Below B a w) (hg : B ≤ g) (o : Nat) (x : En) : Below B a (storeE w g o x) :=
  ((((((h.setCell (by exact hg) _).setCell (by exact hg) _).setCell (by exact hg) _).setCell (by exact hg) _).setCell (by exact hg) _).setCell (by exact hg) _).setCell (by exact hg) _
theorem add_none (b o j : Nat) : (⟨b, o, none⟩ : Addr).add j = ⟨b, o + j, none⟩ := by unfold Addr.add; split <;> simp_all
theorem en_one (l : List En) : ∀ u ∈ l.flatMap enCells, u.oneCell' = true := by
  intro u hu
  obtain ⟨x, _, hx⟩ := List.mem_flatMap.1 hu
  simp only [enCells, List.mem_cons, List.not_mem_nil, or_false] at hx
  rcases hx with rfl | rfl | rfl | rfl | rfl | rfl | rfl <;> rfl
def WithP (w : World) (P : Nat → Prop) (l : List En) (e : Ending) (w' : World) : Prop := ∃ A c, e = .returned (.slice A l.length c) ∧ EnS w' P A l ∧ Below w.heap.size w w'
set_option maxHeartbeats 4000000 in
set_option maxRecDepth 100000 in
theorem rwith_any (w : World) (P : Nat → Prop) (hP : ∀ b, w.heap.size ≤ b → P b) (A : Option Addr) (l : List En) (ca k : Nat) (z : En) (hl : l.length ≤ 4096) (hk : k < l.length) (ha : EnS w P A l) :
    Calls Tryd.prog 36 #[.slice A l.length ca, .int .i64 k, enV z] w (WithP w P (l.set k z)) := by
  obtain ⟨i0, hi0, hz0, hz1, hz2⟩ := info_parts infoEnt
  obtain ⟨x, hx⟩ : ∃ x, l[k]? = some x := ⟨_, List.getElem?_eq_getElem hk⟩
  have hlen := fm_len l
  obtain ⟨zu, zk, zd, ⟨za, zb, zc, ze⟩⟩ := z
  have HW := Lib.hid (one_new w (.cells #[.bool zu, .string zk, .int .i64 zd, .int .i64 za, .int .i64 zb, .int .i64 zc, .int .i64 ze] 83))
  obtain ⟨b, o, rfl, hb0, hlt, hc⟩ := (ha.below HW.out.1) (by omega)
  have HC := Lib.hid hc
  have HL := Lib.hid hlen
  have HX := Lib.hid hx
  have HP := Lib.hid hP
  clear hc hlen ha hb0 hx hP
  unfold enV
  go_enter Tryd.func36, Tryd.ntmps36
  go_wp2_with (at_builtin; refine wpList_append_lies _ rfl _ _ 44 rfl w.heap.size 83 i0 _ 7 64 Tryd.underlying44 hi0 hz0 hz1 hz2 rfl (by omega) _ 0 [] (by rfl) (World.ownsRow_nil _ _ _ _) ⟨b, o, none⟩ l.length ca (l.flatMap enCells) (by rfl) HL.out (fun j u hu => (congrArg _ (add_none b o j)).trans (HC.out j u hu)) (en_one l) (by omega) (by unfold maxLen; omega) (by omega) (HW.out.1.size) _ rfl ?_)
  intro g cap w1 hown hgrow hat hgl
  have HG := Lib.hid (show w.heap.size ≤ g from by first | omega | (simp [Value.ownBlock] at hat; omega))
  have HB := Lib.hid (HW.out.1.grown hgrow HW.out.1.size (by simp [Value.ownBlock]))
  have HE := Lib.hid ((hgrow.block _ (Array.getElem?_eq_some_iff.1 HW.out.2).1 (by simp [Value.ownBlock])).trans HW.out.2)
  have hs := own_store7 hown k hk ⟨zu, zk, zd, ⟨za, zb, zc, ze⟩⟩
  have HO := Lib.hid hs
  obtain ⟨b2, o2, hb2, _, f0, f1, f2, f3, f4, f5, f6⟩ := (EnS.own (P := fun _ => True) hown trivial).at HX.out
  injection hb2 with hb2
  injection hb2 with hb2 ho2
  subst hb2
  subst ho2
  simp only [Nat.zero_add] at f0 f1 f2 f3 f4 f5 f6
  have fr : ∀ o, w1.frozen? ⟨g, o, none⟩ = false := fun o => hown.frozenAt o
  have i0 := cell_blk HE.out 0
  have i1 := cell_blk HE.out 1
  have i2 := cell_blk HE.out 2
  have i3 := cell_blk HE.out 3
  have i4 := cell_blk HE.out 4
  have i5 := cell_blk HE.out 5
  have i6 := cell_blk HE.out 6
  clear hs hown hgrow hat hi0 hz0 hz1 hz2 HC
  go_wp2_with fail
  go_ret
  exact ⟨some ⟨g, 0, none⟩, cap, by rw [List.length_set]; rfl, EnS.own HO.out (HP.out _ HG.out), below_storeE HB.out HG.out (k * 7) ⟨zu, zk, zd, ⟨za, zb, zc, ze⟩⟩⟩

def RNewP (w : World) (P : Nat → Prop) (n : Nat) (e : Ending) (w' : World) : Prop :=
  ∃ A B, e = .returned (.tuple #[.agg #[.slice A n n, .slice B n n, .int .i64 0, .int .i64 0], .int .i64 0]) ∧ EnS w' P A (List.replicate n en0) ∧ EnS w' P B (List.replicate n en0) ∧ Below w.heap.size w w'
theorem two_mk (w : World) (o1 o2 : Obj) : (((w.alloc o1).alloc o2).heap[w.heap.size]? = some o1) ∧ ((w.alloc o1).alloc o2).heap[w.heap.size + 1]? = some o2 := (two_new w o1 o2).2
set_option maxHeartbeats 4000000 in
set_option maxRecDepth 100000 in
theorem rnew_any (w : World) (P : Nat → Prop) (hP : ∀ b, w.heap.size ≤ b → P b) (n : Nat) (h0 : 0 < n) (h1 : n ≤ 4096) : Calls Tryd.prog 17 #[.int .i64 n] w (RNewP w P n) := by
  have d0 : ¬ (n : Int) < 1 := by omega
  have d1 : ¬ (4096 : Int) < (n : Int) := by omega
  have hm := run_mk n h1
  have HP := Lib.hid hP
  clear hP
  go_enter Tryd.func17, Tryd.ntmps17
  go_wp2_with fail
  go_region
  all_goals go_wp2_with fail
  · have HW := Lib.hid (three_new w (.cells #[.slice (some ⟨w.heap.size + 1, 0, none⟩) n n, .slice (some ⟨w.heap.size + 1 + 1, 0, none⟩) n n, .int .i64 0, .int .i64 0] 46) (mkB n) (mkB n))
    generalize ((w.alloc (.cells #[.slice (some ⟨w.heap.size + 1, 0, none⟩) n n, .slice (some ⟨w.heap.size + 1 + 1, 0, none⟩) n n, .int .i64 0, .int .i64 0] 46)).alloc (mkB n)).alloc (mkB n) = w3 at *
    have c0 := cell_blk HW.out.2.1 0
    have c1 := cell_blk HW.out.2.1 1
    have c2 := cell_blk HW.out.2.1 2
    have c3 := cell_blk HW.out.2.1 3
    refine bodyPost_ret (v := .tuple #[.agg #[.slice (some ⟨w.heap.size + 1, 0, none⟩) n n, .slice (some ⟨w.heap.size + 1 + 1, 0, none⟩) n n, .int .i64 0, .int .i64 0], .int .i64 0]) (by simp [results, Tryd.results17, go_sem, c0, c1, c2, c3]) rfl ?_
    exact ⟨_, _, rfl, mk_ens (w := w3.drew) HW.out.2.2.1 (HP.out _ (by omega)), mk_ens (w := w3.drew) HW.out.2.2.2 (HP.out _ (by omega)), HW.out.1.drew⟩
  · have HW := Lib.hid (three_new w (.cells #[.slice (some ⟨w.heap.size + 1 + 1, 0, none⟩) n n, .slice (some ⟨w.heap.size + 1, 0, none⟩) n n, .int .i64 0, .int .i64 0] 46) (mkB n) (mkB n))
    generalize ((w.alloc (.cells #[.slice (some ⟨w.heap.size + 1 + 1, 0, none⟩) n n, .slice (some ⟨w.heap.size + 1, 0, none⟩) n n, .int .i64 0, .int .i64 0] 46)).alloc (mkB n)).alloc (mkB n) = w3 at *
    have c0 := cell_blk HW.out.2.1 0
    have c1 := cell_blk HW.out.2.1 1
    have c2 := cell_blk HW.out.2.1 2
    have c3 := cell_blk HW.out.2.1 3
    refine bodyPost_ret (v := .tuple #[.agg #[.slice (some ⟨w.heap.size + 1 + 1, 0, none⟩) n n, .slice (some ⟨w.heap.size + 1, 0, none⟩) n n, .int .i64 0, .int .i64 0], .int .i64 0]) (by simp [results, Tryd.results17, go_sem, c0, c1, c2, c3]) rfl ?_
    exact ⟨_, _, rfl, mk_ens (w := w3.drew) HW.out.2.2.2 (HP.out _ (by omega)), mk_ens (w := w3.drew) HW.out.2.2.1 (HP.out _ (by omega)), HW.out.1.drew⟩
set_option maxHeartbeats 2000000 in
set_option maxRecDepth 100000 in
theorem rnew_no (w : World) (n : Int) (h : n < 1 ∨ 4096 < n) : Calls Tryd.prog 17 #[.int .i64 n] w (OutB w (.tuple #[.agg #[.slice none 0 0, .slice none 0 0, .int .i64 0, .int .i64 0], .int .i64 12])) := by
  have d1 : n < 1 ∨ ¬ n < 1 ∧ 4096 < n := by omega
  have HW := Lib.hid (one_new w (.cells #[.slice none 0 0, .slice none 0 0, .int .i64 0, .int .i64 0] 46))
  rcases d1 with d1 | ⟨d0, d1⟩
  all_goals
    clear h
    go_enter Tryd.func17, Tryd.ntmps17
    go_wp2_with fail
    generalize w.alloc (.cells #[.slice none 0 0, .slice none 0 0, .int .i64 0, .int .i64 0] 46) = w3 at *
    have c0 := cell_blk HW.out.2 0
    have c1 := cell_blk HW.out.2 1
    have c2 := cell_blk HW.out.2 2
    have c3 := cell_blk HW.out.2 3
    exact bodyPost_ret (v := .tuple #[.agg #[.slice none 0 0, .slice none 0 0, .int .i64 0, .int .i64 0], .int .i64 12]) (by simp [results, Tryd.results17, go_sem, c0, c1, c2, c3]) rfl ⟨rfl, HW.out.1⟩

theorem four_new (w : World) (o1 o2 o3 o4 : Obj) : Below w.heap.size w ((((w.alloc o1).alloc o2).alloc o3).alloc o4) ∧ ((((w.alloc o1).alloc o2).alloc o3).alloc o4).heap[w.heap.size + 1]? = some o2 ∧ ((((w.alloc o1).alloc o2).alloc o3).alloc o4).heap[w.heap.size + 1 + 1]? = some o3 ∧ ((((w.alloc o1).alloc o2).alloc o3).alloc o4).heap[w.heap.size + 1 + 1 + 1]? = some o4 := by
  obtain ⟨h1, h2, h3, h4⟩ := three_new w o1 o2 o3
  refine ⟨h1.alloc (by first | (simp; done) | (simp; omega)) _, (Below.heap_alloc _ _ _ (by first | (simp; done) | (simp; omega))).trans h3, (Below.heap_alloc _ _ _ (by first | (simp; done) | (simp; omega))).trans h4, ?_⟩
  have := heap_alloc_new (((w.alloc o1).alloc o2).alloc o3) o4
  simpa using this
def RClrP (w : World) (P : Nat → Prop) (n : Nat) (f m : Int) (e : Ending) (w' : World) : Prop :=
  ∃ A B, e = .returned (.agg #[.slice A n n, .slice B n n, .int .i64 f, .int .i64 m]) ∧ EnS w' P A (List.replicate n en0) ∧ EnS w' P B (List.replicate n en0) ∧ Below w.heap.size w w'
set_option maxHeartbeats 4000000 in
set_option maxRecDepth 100000 in
theorem rclear_any (w : World) (P : Nat → Prop) (hP : ∀ b, w.heap.size ≤ b → P b) (A B : Option Addr) (n ca cb : Nat) (f m : Int) (h1 : n ≤ 4096) :
    Calls Tryd.prog 24 #[.agg #[.slice A n ca, .slice B n cb, .int .i64 f, .int .i64 m]] w (RClrP w P n f m) := by
  have hm := run_mk n h1
  have HP := Lib.hid hP
  clear hP
  go_enter Tryd.func24, Tryd.ntmps24
  go_wp2_with fail
  go_region
  all_goals go_wp2_with fail
  · have HW := Lib.hid (four_new w (.cells #[.slice A n ca, .slice B n cb, .int .i64 f, .int .i64 m] 46) (.cells #[.slice (some ⟨w.heap.size + 1 + 1, 0, none⟩) n n, .slice (some ⟨w.heap.size + 1 + 1 + 1, 0, none⟩) n n, .int .i64 f, .int .i64 m] 46) (mkB n) (mkB n))
    generalize (((w.alloc (.cells #[.slice A n ca, .slice B n cb, .int .i64 f, .int .i64 m] 46)).alloc (.cells #[.slice (some ⟨w.heap.size + 1 + 1, 0, none⟩) n n, .slice (some ⟨w.heap.size + 1 + 1 + 1, 0, none⟩) n n, .int .i64 f, .int .i64 m] 46)).alloc (mkB n)).alloc (mkB n) = w3 at *
    have c0 := cell_blk HW.out.2.1 0
    have c1 := cell_blk HW.out.2.1 1
    have c2 := cell_blk HW.out.2.1 2
    have c3 := cell_blk HW.out.2.1 3
    refine bodyPost_ret (v := .agg #[.slice (some ⟨w.heap.size + 1 + 1, 0, none⟩) n n, .slice (some ⟨w.heap.size + 1 + 1 + 1, 0, none⟩) n n, .int .i64 f, .int .i64 m]) (by simp [results, Tryd.results24, go_sem, c0, c1, c2, c3]) rfl ?_
    exact ⟨_, _, rfl, mk_ens (w := w3.drew) HW.out.2.2.1 (HP.out _ (by omega)), mk_ens (w := w3.drew) HW.out.2.2.2 (HP.out _ (by omega)), HW.out.1.drew⟩
  · have HW := Lib.hid (four_new w (.cells #[.slice A n ca, .slice B n cb, .int .i64 f, .int .i64 m] 46) (.cells #[.slice (some ⟨w.heap.size + 1 + 1 + 1, 0, none⟩) n n, .slice (some ⟨w.heap.size + 1 + 1, 0, none⟩) n n, .int .i64 f, .int .i64 m] 46) (mkB n) (mkB n))
    generalize (((w.alloc (.cells #[.slice A n ca, .slice B n cb, .int .i64 f, .int .i64 m] 46)).alloc (.cells #[.slice (some ⟨w.heap.size + 1 + 1 + 1, 0, none⟩) n n, .slice (some ⟨w.heap.size + 1 + 1, 0, none⟩) n n, .int .i64 f, .int .i64 m] 46)).alloc (mkB n)).alloc (mkB n) = w3 at *
    have c0 := cell_blk HW.out.2.1 0
    have c1 := cell_blk HW.out.2.1 1
    have c2 := cell_blk HW.out.2.1 2
    have c3 := cell_blk HW.out.2.1 3
    refine bodyPost_ret (v := .agg #[.slice (some ⟨w.heap.size + 1 + 1 + 1, 0, none⟩) n n, .slice (some ⟨w.heap.size + 1 + 1, 0, none⟩) n n, .int .i64 f, .int .i64 m]) (by simp [results, Tryd.results24, go_sem, c0, c1, c2, c3]) rfl ?_
    exact ⟨_, _, rfl, mk_ens (w := w3.drew) HW.out.2.2.2 (HP.out _ (by omega)), mk_ens (w := w3.drew) HW.out.2.2.1 (HP.out _ (by omega)), HW.out.1.drew⟩

theorem cnt_take {l : List En} {k : Nat} {x : En} (hx : l[k]? = some x) : lenF (l.take (k + 1)) = lenF (l.take k) + (if x.u then 1 else 0) := by
  obtain ⟨a1, b1⟩ := List.getElem?_eq_some_iff.1 hx
  unfold lenF
  rw [List.take_succ_eq_append_getElem a1, b1, List.countP_append]
  simp
set_option maxHeartbeats 4000000 in
set_option maxRecDepth 100000 in
theorem rlen_any (w : World) (P : Nat → Prop) (A B : Option Addr) (D R : List En) (ca cb : Nat) (f m : Int) (h1 : D.length ≤ 4096) (hl : R.length = D.length) (ha : EnS w P A D) (hb : EnS w P B R) :
    Calls Tryd.prog 25 #[.agg #[.slice A D.length ca, .slice B D.length cb, .int .i64 f, .int .i64 m]] w (OutB w (.int .i64 ((lenF D + lenF R : Nat) : Int))) := by
  have HW := Lib.hid (one_new w (.cells #[.slice A D.length ca, .slice B D.length cb, .int .i64 f, .int .i64 m] 46))
  have HA := Lib.hid (ha.below HW.out.1)
  have HB := Lib.hid (hb.below HW.out.1)
  have HL := Lib.hid hl
  clear ha hb hl
  go_enter Tryd.func25, Tryd.ntmps25
  go_wp2_with fail
  generalize w.alloc (.cells #[.slice A D.length ca, .slice B D.length cb, .int .i64 f, .int .i64 m] 46) = w0 at *
  go_loop [3, 4] (fun s i => ∃ k : Nat, k ≤ D.length ∧ i = .int .i64 k ∧ s = .int .i64 ((lenF (D.take k) + lenF (R.take k) : Nat) : Int)) (fun _ i => D.length - (intOf i).toNat)
  case atStart => exact ⟨0, Nat.zero_le _, rfl, rfl⟩
  case round =>
    obtain ⟨k, hk, rfl, rfl⟩ := hrel
    have c0 := cell_blk HW.out.2 0
    have c1 := cell_blk HW.out.2 1
    have hq : lenF (D.take k) + lenF (R.take k) ≤ 8192 := by
      have a1 := len_le (D.take k)
      have a2 := len_le (R.take k)
      have a3 : (D.take k).length ≤ k := List.length_take_le _ _
      have a4 : (R.take k).length ≤ k := List.length_take_le _ _
      omega
    by_cases hlk : k < D.length
    rotate_left
    · obtain rfl : k = D.length := by omega
      rw [List.take_length]
      have HE := Lib.hid (List.take_of_length_le (l := R) (i := D.length) (by rw [HL.out]; exact Nat.le_refl _))
      generalize hs : R.take D.length = R' at *
      have HR := Lib.hid hs
      clear hs
      go_wp2_with fail
      go_ret
      exact ⟨by rw [HE.out]; rfl, HW.out.1⟩
    obtain ⟨x, hx⟩ : ∃ x, D[k]? = some x := ⟨_, List.getElem?_eq_getElem hlk⟩
    obtain ⟨y, hy⟩ : ∃ y, R[k]? = some y := ⟨_, List.getElem?_eq_getElem (by rw [HL.out]; exact hlk)⟩
    have HX := Lib.hid (cnt_take hx)
    have HY := Lib.hid (cnt_take hy)
    obtain ⟨ba, oa, rfl, _, f0, -, -, -, -, -, -⟩ := HA.out.at hx
    obtain ⟨bb, ob, rfl, _, g0, -, -, -, -, -, -⟩ := HB.out.at hy
    generalize lenF (D.take k) = ld at *
    generalize lenF (R.take k) = lr at *
    clear hx hy
    obtain ⟨xu, xk, xd, xb⟩ := x
    obtain ⟨yu, yk, yd, yb⟩ := y
    simp only at f0 g0 HX HY
    cases xu <;> cases yu
    all_goals
      go_wp2_with fail
      go_round
      case rel => exact ⟨k + 1, by omega, by go_num, by rw [HX.out, HY.out]; first | rfl | go_num | (simp; omega)⟩
      case measure => simp [intOf]; omega
end Go.Proofs.YtggffmbhpgioaaaDoor
