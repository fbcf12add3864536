/- The walk of law31.TableRuns. -/
import Derived.Test.YtggffmbhpgioaaaDoorYb
import Derived.Test.YtggffmbhpgioaaaDoorZv
namespace Go.Proofs.YtggffmbhpgioaaaDoor
open Go Go.RowKit Go.Shelf
set_option linter.unusedSimpArgs false

theorem grown_stT (w : World) (b : Nat) (u0 u1 u2 u3 : Value) : w.grownBy ((((w.setCell ⟨b, 0, none⟩ u0).setCell ⟨b, 1, none⟩ u1).setCell ⟨b, 2, none⟩ u2).setCell ⟨b, 3, none⟩ u3) (some b) := grown_storeT w b u0 u1 u2 u3
theorem stT_blk {w : World} {b : Nat} {v0 v1 v2 v3 : Value} {t : TypeId} (h : w.heap[b]? = some (.cells #[v0, v1, v2, v3] t (0, 0))) (u0 u1 u2 u3 : Value) : ((((w.setCell ⟨b, 0, none⟩ u0).setCell ⟨b, 1, none⟩ u1).setCell ⟨b, 2, none⟩ u2).setCell ⟨b, 3, none⟩ u3).heap[b]? = some (.cells #[u0, u1, u2, u3] t (0, 0)) := storeT_blk h u0 u1 u2 u3
theorem below_stT {B b : Nat} {a w : World} (h : Below B a w) (hb : B ≤ b) (u0 u1 u2 u3 : Value) : Below B a ((((w.setCell ⟨b, 0, none⟩ u0).setCell ⟨b, 1, none⟩ u1).setCell ⟨b, 2, none⟩ u2).setCell ⟨b, 3, none⟩ u3) :=
  (((h.setCell (by exact hb) _).setCell (by exact hb) _).setCell (by exact hb) _).setCell (by exact hb) _
/-- the reference's table, a key and a depth in memory -/
def Six (y : World) (q ob oo : Nat) (A B : Option Addr) (n ca cb : Nat) (h m : Int) (key : ByteArray) (d : Int) : Prop :=
  (q < y.heap.size ∧ ob < y.heap.size) ∧ y.cell? ⟨q, 0, none⟩ = some (.slice A n ca) ∧ y.cell? ⟨q, 1, none⟩ = some (.slice B n cb) ∧ y.cell? ⟨q, 2, none⟩ = some (.int .i64 h) ∧ y.cell? ⟨q, 3, none⟩ = some (.int .i64 m) ∧ y.cell? ⟨ob, oo + 1, none⟩ = some (.string key) ∧ y.cell? ⟨ob, oo + 2, none⟩ = some (.int .i64 d)
theorem six_below {y y' : World} {q ob oo : Nat} {A B : Option Addr} {n ca cb : Nat} {h m : Int} {key : ByteArray} {d : Int} (hb : Below y.heap.size y y') (s : Six y q ob oo A B n ca cb h m key d) :
    y'.cell? ⟨q, 0, none⟩ = some (.slice A n ca) ∧ y'.cell? ⟨q, 1, none⟩ = some (.slice B n cb) ∧ y'.cell? ⟨q, 2, none⟩ = some (.int .i64 h) ∧ y'.cell? ⟨q, 3, none⟩ = some (.int .i64 m) ∧ y'.cell? ⟨ob, oo + 1, none⟩ = some (.string key) ∧ y'.cell? ⟨ob, oo + 2, none⟩ = some (.int .i64 d) := by
  obtain ⟨⟨l1, l2⟩, s0, s1, s2, s3, s4, s5⟩ := s
  exact ⟨(hb.cell (p := ⟨q, 0, none⟩) l1).trans s0, (hb.cell (p := ⟨q, 1, none⟩) l1).trans s1, (hb.cell (p := ⟨q, 2, none⟩) l1).trans s2, (hb.cell (p := ⟨q, 3, none⟩) l1).trans s3, (hb.cell (p := ⟨ob, oo + 1, none⟩) l2).trans s4, (hb.cell (p := ⟨ob, oo + 2, none⟩) l2).trans s5⟩
section
variable {P : Program} {md : Region.Mode} {l : List Oper} {Q : Exit → Act → World → Prop} {S : World → Prop}
theorem held_three {fuel : Nat} {listed : Array Bool} {a : Act} {w : World} {i j k : Nat} {o o2 o3 : Oper} (ho : l[i]? = some o) (ho2 : l[j]? = some o2) (ho3 : l[k]? = some o3)
    (h : ∀ K' : Act → World → Prop, Shut (∀ a w, S w → (S w → wpAnyH P md l.toArray Q S fuel (listed.setIfInBounds i true) a w) → K' a w) → if Region.wanted o (yielded l.toArray a.tmps) = true then Oper.wp P o a w K' Q else K' (a.put o.dst undef) w)
    (h2 : ∀ K' : Act → World → Prop, Shut (∀ a w, S w → (S w → wpAnyH P md l.toArray Q S fuel (listed.setIfInBounds j true) a w) → K' a w) → if Region.wanted o2 (yielded l.toArray a.tmps) = true then Oper.wp P o2 a w K' Q else K' (a.put o2.dst undef) w)
    (h3 : ∀ K' : Act → World → Prop, Shut (∀ a w, S w → (S w → wpAnyH P md l.toArray Q S fuel (listed.setIfInBounds k true) a w) → K' a w) → if Region.wanted o3 (yielded l.toArray a.tmps) = true then Oper.wp P o3 a w K' Q else K' (a.put o3.dst undef) w) : AllReadyH P md l.toArray Q S fuel listed a w [i, j, k] :=
  AllReadyH.cons (by rw [List.getElem?_toArray]; exact ho) h (AllReadyH.cons (by rw [List.getElem?_toArray]; exact ho2) h2 (AllReadyH.cons (by rw [List.getElem?_toArray]; exact ho3) h3 AllReadyH.nil))
end
theorem box_grown {a b c : World} {bt : Nat} (h1 : Below a.heap.size a b) (h2 : b.grownBy c (some bt)) (z : Bd) :
    a.grownBy ((((c.setCell ⟨a.heap.size, 0, none⟩ (.int .i64 z.a)).setCell ⟨a.heap.size, 1, none⟩ (.int .i64 z.b)).setCell ⟨a.heap.size, 2, none⟩ (.int .i64 z.c)).setCell ⟨a.heap.size, 3, none⟩ (.int .i64 z.e)) (some bt) := by
  have h3 := grown_trans (grown_below h1 (some bt)) h2
  have h4 := grown_storeB c a.heap.size z
  unfold storeB at h4
  exact ⟨h4.os.trans h3.os, h4.tape.trans h3.tape, h4.output.trans h3.output, Nat.le_trans h3.size h4.size, fun k hk hne => (h4.block k (Nat.lt_of_lt_of_le hk h3.size) (by simp; omega)).trans (h3.block k hk hne)⟩

set_option maxHeartbeats 32000000 in
set_option maxRecDepth 100000 in
theorem law_runs_yes (w : World) (A0 : Option Addr) (ca0 n : Nat) (l : List Op1) (n0 : 0 < n) (n1 : n ≤ 4096) (hs : shortB l = true) (ha : OpS w A0 l) (ht : Tb w) :
    Calls Tryd.prog 6 #[.int .i64 n, .slice A0 l.length ca0] w (OutB w (.bool true)) := by
  have HTB := Lib.hid ht
  have HO := Lib.hid ha
  have HS := Lib.hid (short_keys hs)
  have hl80 : l.length ≤ 80 := HS.out.2
  have CN := Lib.hid (fun (y : World) => new_any y n n0 n1)
  have CR := Lib.hid (fun (y : World) (P : Nat → Prop) (hP : ∀ b, y.heap.size ≤ b → P b) => rnew_any y P hP n n0 n1)
  have CS := Lib.hid (short_any w A0 ca0 l (by omega) ha)
  rw [hs] at CS
  clear ht ha hs
  go_enter Tryd.func6, Tryd.ntmps6
  go_wp2_with fail
  refine CS.out.mono ?_
  rintro e0 w2 ⟨rfl, rfl⟩
  clear CS
  go_wp2_with fail
  refine (CN.out _).mono ?_
  rintro e0 w1 ⟨bt, bs, rfl, ht, hlo, hls, hb⟩
  have HA := Lib.hid (show LS w w1 bt bs n (List.replicate (2 * n) en0) 0 0 from ⟨ht, hb, hlo, hls⟩)
  clear ht hb hlo hls CN
  go_wp2_with fail
  refine (CR.out _ (fun b => w1.heap.size ≤ b) (fun b h => h)).mono ?_
  rintro e0 w2 ⟨A, B, rfl, hea, heb, hb⟩
  have HL := Lib.hid (HA.out.keep hb)
  have hlt := HA.out.tab.lt
  have hsz := hb.size
  have HE := Lib.hid (And.intro hea heb)
  clear hb hea heb CR HA
  go_wp2_with fail
  have HN := Lib.hid (one_new w2 (tbO A B n n n 0 0))
  have hne0 : w2.heap.size ≠ bt := by omega
  have hne1 : w2.heap.size ≠ bs := by omega
  have HM : Hid (MS w (w2.alloc (tbO A B n n n 0 0)) bt bs w2.heap.size n A B n n (List.replicate n en0) (List.replicate n en0) 0 0) :=
    ⟨HN.out.2, HL.out.below.size, hne0, hne1, (HE.out.1.imp (fun b hb hp => ⟨by omega, by omega, by omega⟩)).below HN.out.1, (HE.out.2.imp (fun b hb hp => ⟨by omega, by omega, by omega⟩)).below HN.out.1⟩
  replace HL := Lib.hid (HL.out.keep HN.out.1)
  unfold tbO at HM HL
  clear HN HE hlt hsz hne0 hne1
  generalize w2.alloc (.cells #[.slice A n n, .slice B n n, .int .i64 0, .int .i64 0] 46) = w3 at *
  generalize w2.heap.size = q at *
  go_loopg [9] l.length (fun g i wr => ∃ (k : Nat) (T D R : List En) (A B : Option Addr) (ca cb : Nat) (h m : Int), k + g = l.length ∧ i = .int .i64 k ∧ 0 ≤ h ∧ h ≤ k ∧ 0 ≤ m ∧ m ≤ k ∧ Hid (LS w wr bt bs n T h m) ∧ Hid (MS w wr bt bs q n A B ca cb D R h m) ∧ Rel n T D R)
  case atStart => exact ⟨0, _, _, _, A, B, n, n, 0, 0, by omega, rfl, by omega, by omega, by omega, by omega, HL.out, HM.out, rel_rep n⟩
  case round =>
    clear HL HM
    obtain ⟨k, T, D, R, A, B, ca, cb, h, m, hkq, rfl, h0, h1, m0, m1, HL, HM, hR⟩ := hrel
    have HR := Lib.hid hR
    clear hR
    by_cases hlk : k < l.length
    rotate_left
    · obtain rfl : k = l.length := by omega
      go_wp2_with fail
      refine (awake_any _ (HTB.out.below HL.out.below)).mono ?_
      rintro e0 wz ⟨rfl, hb⟩
      have HBz := Lib.hid (HL.out.below.trans (hb.mono HL.out.below.size))
      clear hb
      go_wp2_with fail
      go_ret
      exact ⟨rfl, HBz.out⟩
    obtain ⟨x, hx⟩ : ∃ x, l[k]? = some x := ⟨_, List.getElem?_eq_getElem hlk⟩
    obtain ⟨ob, oo, rfl, hob, hc⟩ := HO.out (by omega)
    have HX := Lib.hid hx
    have hks := HS.out.1 x (List.mem_of_getElem? hx)
    obtain ⟨o0, o1, o2, o3, o4, o5, o6⟩ := (hc k x hx).below HL.out.below hob
    have HCC := Lib.hid hc
    clear hx hc
    have hlt1 := HL.out.lt
    have hlt2 := HL.out.ls
    have hlt3 := HM.out.q0
    have hob1 : ob ≠ bt := by omega
    have hob2 : ob ≠ bs := by omega
    have hobq : ob ≠ q := by omega
    clear hlt1 hlt2 hlt3
    by_cases hk0 : x.kind = 0
    focus
      -- Put
      have d0 : (x.kind == 0) = true := by simpa using hk0
      have o3' : wr.cell? ⟨ob, oo + k * 7 + 3 + 1, none⟩ = some (.int .i64 x.b.b) := o4
      have o4' : wr.cell? ⟨ob, oo + k * 7 + 3 + 2, none⟩ = some (.int .i64 x.b.c) := o5
      have o5' : wr.cell? ⟨ob, oo + k * 7 + 3 + 3, none⟩ = some (.int .i64 x.b.e) := o6
      clear hk0 o4 o5 o6
      have HM0 := Lib.hid (HM.out.keep (Below.drew (Below.refl _ _)))
      replace HL := Lib.hid HL.out.drew
      have CP := Lib.hid (fun (y : World) (t : TabM y bt bs n T h m) => put_any y t x.key (by omega) x.d x.b.a x.b.b x.b.c x.b.e)
      go_wp2_with fail
      refine region_tail 16 (by kernel_rfl) (by kernel_rfl) ?_
      simp only [List.take_succ_cons, List.take_zero, List.drop_succ_cons, List.drop_zero]
      repeat still_step
      refine wpStill_nil ?_
      clear HM
      generalize wr.drew = wd at *
      go_wp2_with fail
      refine (CP.out _ HL.out.tab).mono ?_
      rintro e9 w9 ⟨rfl, ht9, hg9⟩
      replace HL := Lib.hid (HL.out.put ht9 hg9)
      have HM := Lib.hid (HM0.out.grown hg9 (.inr rfl))
      have HR2 := Lib.hid (HR.out.put (s := slotI x.key n) (Nat.mod_lt _ n0) ⟨true, x.key, x.d, ⟨x.b.a, x.b.b, x.b.c, x.b.e⟩⟩)
      clear ht9 hg9 CP o0 o1 o2 o3 o3' o4' o5' HM0
      obtain ⟨-, o1, o2, o3, o4, o5, o6⟩ := (HCC.out k x HX.out).below HL.out.below hob
      have o3' : w9.cell? ⟨ob, oo + k * 7 + 3 + 1, none⟩ = some (.int .i64 x.b.b) := o4
      have o4' : w9.cell? ⟨ob, oo + k * 7 + 3 + 2, none⟩ = some (.int .i64 x.b.c) := o5
      have o5' : w9.cell? ⟨ob, oo + k * 7 + 3 + 3, none⟩ = some (.int .i64 x.b.e) := o6
      clear o4 o5 o6
      have t0 := HM.out.cells.1
      have t1 := HM.out.cells.2.1
      have t2 := HM.out.cells.2.2.1
      have t3 := HM.out.cells.2.2.2
      have ft := HM.out.free
      have HLD := Lib.hid HL.out.drew
      have HMD := Lib.hid (HM.out.keep (Below.drew (Below.refl _ _)))
      go_wp2_with fail
      refine region_tail 16 (by kernel_rfl) (by kernel_rfl) ?_
      simp only [List.take_succ_cons, List.take_zero, List.drop_succ_cons, List.drop_zero]
      repeat still_step
      refine wpStill_nil ?_
      clear HM HL o1 o2 o3 o3' o4' o5' t0 t1 t2 t3 ft
      generalize w9.drew = we at *
      go_wp2_with fail
      refine (rput_law we (Pq bt bs q) (HMD.out.new HLD.out) n0 n1 HR.out.ld HR.out.lr HMD.out.ea HMD.out.eb x.key hks x.d x.b.a x.b.b x.b.c x.b.e).mono ?_
      rintro e9 wf ⟨A', B', ca', cb', rfl, hea, heb, -, -, hb⟩
      have HE := Lib.hid (And.intro hea heb)
      have HL := Lib.hid (HLD.out.keep hb)
      have HM := Lib.hid (HMD.out.keep hb)
      clear hea heb hb HLD HMD
      have t0 := HM.out.cells.1
      have t1 := HM.out.cells.2.1
      have t2 := HM.out.cells.2.2.1
      have t3 := HM.out.cells.2.2.2
      have ft := HM.out.free
      have HM2 := Lib.hid (HM.out.store (ca' := ca') (cb' := cb') h m HE.out.1 HE.out.2)
      have HL2 := Lib.hid (HL.out.store HM.out.q0 HM.out.q1 HM.out.q2 (.slice A' n ca') (.slice B' n cb') (.int .i64 h) (.int .i64 m))
      clear HM HL HE
      generalize putF T (slotI x.key n) ⟨true, x.key, x.d, ⟨x.b.a, x.b.b, x.b.c, x.b.e⟩⟩ = T' at *
      generalize rputF D R (slotI x.key n) ⟨true, x.key, x.d, ⟨x.b.a, x.b.b, x.b.c, x.b.e⟩⟩ = DR at *
      have HL := HL2
      have HM := HM2
      clear HL2 HM2
      go_wp2_with fail
      clear t0 t1 t2 t3 ft
      generalize (((wf.setCell ⟨q, 0, none⟩ (.slice A' n ca')).setCell ⟨q, 1, none⟩ (.slice B' n cb')).setCell ⟨q, 2, none⟩ (.int .i64 h)).setCell ⟨q, 3, none⟩ (.int .i64 m) = wg at *
      go_wp2_with fail
      refine (hits_any _ HL.out.tab).mono ?_
      rintro e9 wh ⟨rfl, hb⟩
      replace HL := Lib.hid (HL.out.keep hb)
      replace HM := Lib.hid (HM.out.keep hb)
      clear hb
      go_wp2_with fail
      have HLD := Lib.hid (fun (y : World) (hb : Below wh.heap.size wh y) => And.intro (HL.out.keep hb) (HM.out.keep hb))
      have CLT := Lib.hid (fun (y : World) (hb : Below wh.heap.size wh y) => len_any y (HLD.out y hb).1.tab)
      have CLR := Lib.hid (fun (y : World) (hb : Below wh.heap.size wh y) => rlen_law y _ (f := h) (m := m) (ca := ca') (cb := cb') (n := n) n1 HR2.out.ld HR2.out.lr (HLD.out y hb).2.ea (HLD.out y hb).2.eb)
      rw [HR2.out.count] at CLR
      generalize lenF T' = ll at *
      refine wp_region_held_drew (S := fun y => Below wh.heap.size wh y) (by kernel_rfl) (Below.drew (Below.refl _ _)) (fun hHeld => ?_)
      refine held_take (i := 0) (by rfl) (by kernel_rfl) (by kernel_rfl) (by kernel_rfl) (by intro c a w h; exact h) (by rfl) (by intro w' hSw; go_simp; try with_reducible rfl) hHeld ?_
      try simp only [Act.put, List.setIfInBounds_toArray, List.set_cons_zero, List.set_cons_succ]
      refine held_take (i := 2) (by rfl) (by kernel_rfl) (by kernel_rfl) (by kernel_rfl) (by intro c a w h; exact h) (by rfl) (by intro w' hSw; obtain ⟨s0, s1, s2, s3⟩ := (HLD.out w' hSw).2.cells; go_simp; try with_reducible rfl) hHeld ?_
      try simp only [Act.put, List.setIfInBounds_toArray, List.set_cons_zero, List.set_cons_succ]
      refine wpAnyH_ready (rs := [1]) (by kernel_rfl) (by simp) ?_
      refine held_one (by rfl) (fun K hK => ?_)
      go_simp
      refine (CLT.out _ hHeld).mono ?_
      rintro e9 wi ⟨rfl, hb9⟩
      refine hK.out _ _ (hHeld.trans (hb9.mono hHeld.size)) (fun hHeld9 => ?_)
      clear hb9
      clear hHeld hK K
      have hHeld := hHeld9
      clear hHeld9
      try simp only [Act.put, List.setIfInBounds_toArray, List.set_cons_zero, List.set_cons_succ]
      refine wpAnyH_ready (rs := [3]) (by kernel_rfl) (by simp) ?_
      refine held_one (by rfl) (fun K hK => ?_)
      go_simp
      refine (CLR.out _ hHeld).mono ?_
      rintro e9 wj ⟨rfl, hb9⟩
      refine hK.out _ _ (hHeld.trans (hb9.mono hHeld.size)) (fun hHeld9 => ?_)
      clear hb9
      clear hHeld hK K
      have hHeld := hHeld9
      clear hHeld9
      try simp only [Act.put, List.setIfInBounds_toArray, List.set_cons_zero, List.set_cons_succ]
      refine held_take (i := 4) (by rfl) (by kernel_rfl) (by kernel_rfl) (by kernel_rfl) (by intro c a w h; exact h) (by rfl) (by intro w' hSw; obtain ⟨s0, s1, s2, s3⟩ := (HLD.out w' hSw).2.cells; go_simp; try with_reducible rfl) hHeld ?_
      try simp only [Act.put, List.setIfInBounds_toArray, List.set_cons_zero, List.set_cons_succ]
      refine held_take (i := 5) (by rfl) (by kernel_rfl) (by kernel_rfl) (by kernel_rfl) (by intro c a w h; exact h) (by rfl) (by intro w' hSw; obtain ⟨s0, s1, s2, s3⟩ := (HLD.out w' hSw).2.cells; go_simp; try with_reducible rfl) hHeld ?_
      try simp only [Act.put, List.setIfInBounds_toArray, List.set_cons_zero, List.set_cons_succ]
      refine held_take (i := 6) (by rfl) (by kernel_rfl) (by kernel_rfl) (by kernel_rfl) (by intro c a w h; exact h) (by rfl) (by intro w' hSw; obtain ⟨s0, s1, s2, s3⟩ := (HLD.out w' hSw).2.cells; go_simp; try with_reducible rfl) hHeld ?_
      try simp only [Act.put, List.setIfInBounds_toArray, List.set_cons_zero, List.set_cons_succ]
      refine held_take (i := 7) (by rfl) (by kernel_rfl) (by kernel_rfl) (by kernel_rfl) (by intro c a w h; exact h) (by rfl) (by intro w' hSw; obtain ⟨s0, s1, s2, s3⟩ := (HLD.out w' hSw).2.cells; go_simp; try with_reducible rfl) hHeld ?_
      try simp only [Act.put, List.setIfInBounds_toArray, List.set_cons_zero, List.set_cons_succ]
      refine held_take (i := 8) (by rfl) (by kernel_rfl) (by kernel_rfl) (by kernel_rfl) (by intro c a w h; exact h) (by rfl) (by intro w' hSw; obtain ⟨s0, s1, s2, s3⟩ := (HLD.out w' hSw).2.cells; go_simp; try with_reducible rfl) hHeld ?_
      try simp only [Act.put, List.setIfInBounds_toArray, List.set_cons_zero, List.set_cons_succ]
      refine held_take (i := 9) (by rfl) (by kernel_rfl) (by kernel_rfl) (by kernel_rfl) (by intro c a w h; exact h) (by rfl) (by intro w' hSw; obtain ⟨s0, s1, s2, s3⟩ := (HLD.out w' hSw).2.cells; go_simp; try with_reducible rfl) hHeld ?_
      try simp only [Act.put, List.setIfInBounds_toArray, List.set_cons_zero, List.set_cons_succ]
      refine held_take (i := 10) (by rfl) (by kernel_rfl) (by kernel_rfl) (by kernel_rfl) (by intro c a w h; exact h) (by rfl) (by intro w' hSw; obtain ⟨s0, s1, s2, s3⟩ := (HLD.out w' hSw).2.cells; go_simp; try with_reducible rfl) hHeld ?_
      try simp only [Act.put, List.setIfInBounds_toArray, List.set_cons_zero, List.set_cons_succ]
      refine held_take (i := 11) (by rfl) (by kernel_rfl) (by kernel_rfl) (by kernel_rfl) (by intro c a w h; exact h) (by rfl) (by intro w' hSw; obtain ⟨s0, s1, s2, s3⟩ := (HLD.out w' hSw).2.cells; go_simp; try with_reducible rfl) hHeld ?_
      try simp only [Act.put, List.setIfInBounds_toArray, List.set_cons_zero, List.set_cons_succ]
      refine held_take (i := 12) (by rfl) (by kernel_rfl) (by kernel_rfl) (by kernel_rfl) (by intro c a w h; exact h) (by rfl) (by intro w' hSw; obtain ⟨s0, s1, s2, s3⟩ := (HLD.out w' hSw).2.cells; go_simp; try with_reducible rfl) hHeld ?_
      try simp only [Act.put, List.setIfInBounds_toArray, List.set_cons_zero, List.set_cons_succ]
      refine held_take (i := 13) (by rfl) (by kernel_rfl) (by kernel_rfl) (by kernel_rfl) (by intro c a w h; exact h) (by rfl) (by intro w' hSw; obtain ⟨s0, s1, s2, s3⟩ := (HLD.out w' hSw).2.cells; go_simp; try with_reducible rfl) hHeld ?_
      try simp only [Act.put, List.setIfInBounds_toArray, List.set_cons_zero, List.set_cons_succ]
      refine held_take (i := 14) (by rfl) (by kernel_rfl) (by kernel_rfl) (by kernel_rfl) (by intro c a w h; exact h) (by rfl) (by intro w' hSw; obtain ⟨s0, s1, s2, s3⟩ := (HLD.out w' hSw).2.cells; go_simp; try with_reducible rfl) hHeld ?_
      try simp only [Act.put, List.setIfInBounds_toArray, List.set_cons_zero, List.set_cons_succ]
      refine held_take (i := 15) (by rfl) (by kernel_rfl) (by kernel_rfl) (by kernel_rfl) (by intro c a w h; exact h) (by rfl) (by intro w' hSw; obtain ⟨s0, s1, s2, s3⟩ := (HLD.out w' hSw).2.cells; go_simp; try with_reducible rfl) hHeld ?_
      try simp only [Act.put, List.setIfInBounds_toArray, List.set_cons_zero, List.set_cons_succ]
      refine held_take (i := 16) (by rfl) (by kernel_rfl) (by kernel_rfl) (by kernel_rfl) (by intro c a w h; exact h) (by rfl) (by intro w' hSw; obtain ⟨s0, s1, s2, s3⟩ := (HLD.out w' hSw).2.cells; go_simp; try with_reducible rfl) hHeld ?_
      try simp only [Act.put, List.setIfInBounds_toArray, List.set_cons_zero, List.set_cons_succ]
      refine wpAnyH_done (by kernel_rfl) ?_ _
      have HZ := Lib.hid (HLD.out _ hHeld)
      clear CLT CLR HLD hHeld
      go_wp2_with fail
      go_roundg (l.length - (k + 1))
      case measure => omega
      case rel => exact ⟨k + 1, T', DR.1, DR.2, A', B', ca', cb', h, m, by omega, by go_num, by omega, by omega, by omega, by omega, HZ.out.1, HZ.out.2, HR2.out⟩
    have d0 : (x.kind == 0) = false := by simpa using hk0
    clear hk0
    by_cases hk1 : x.kind = 1
    rotate_left
    focus
      -- Clear
      have d1 : (x.kind == 1) = false := by simpa using hk1
      clear hk1
      go_wp2_with fail
      refine (clear_any wr HL.out.tab).mono ?_
      rintro e9 w9 ⟨rfl, ht9, hg9⟩
      replace HL := Lib.hid (HL.out.put ht9 hg9)
      replace HM := Lib.hid (HM.out.grown hg9 (.inr rfl))
      clear ht9 hg9 o0 o1 o2 o3 o4 o5 o6
      have t0 := HM.out.cells.1
      have t1 := HM.out.cells.2.1
      have t2 := HM.out.cells.2.2.1
      have t3 := HM.out.cells.2.2.2
      have ft := HM.out.free
      go_wp2_with fail
      clear t0 t1 t2 t3 ft
      refine (rclear_any w9 (Pq bt bs q) (HM.out.new HL.out) A B n ca cb h m n1).mono ?_
      rintro e9 wf ⟨A', B', rfl, hea, heb, hb⟩
      have HE := Lib.hid (And.intro hea heb)
      replace HL := Lib.hid (HL.out.keep hb)
      replace HM := Lib.hid (HM.out.keep hb)
      clear hea heb hb
      have t0 := HM.out.cells.1
      have t1 := HM.out.cells.2.1
      have t2 := HM.out.cells.2.2.1
      have t3 := HM.out.cells.2.2.2
      have ft := HM.out.free
      have HM2 := Lib.hid (HM.out.store (ca' := n) (cb' := n) h m HE.out.1 HE.out.2)
      have HL2 := Lib.hid (HL.out.store HM.out.q0 HM.out.q1 HM.out.q2 (.slice A' n n) (.slice B' n n) (.int .i64 h) (.int .i64 m))
      clear HM HL HE
      have HL := HL2
      have HM := HM2
      clear HL2 HM2
      go_wp2_with fail
      clear t0 t1 t2 t3 ft
      generalize (((wf.setCell ⟨q, 0, none⟩ (.slice A' n n)).setCell ⟨q, 1, none⟩ (.slice B' n n)).setCell ⟨q, 2, none⟩ (.int .i64 h)).setCell ⟨q, 3, none⟩ (.int .i64 m) = wg at *
      have HR2 := Lib.hid (rel_rep n)
      go_wp2_with fail
      refine (hits_any _ HL.out.tab).mono ?_
      rintro e9 wh ⟨rfl, hb⟩
      replace HL := Lib.hid (HL.out.keep hb)
      replace HM := Lib.hid (HM.out.keep hb)
      clear hb
      go_wp2_with fail
      have HLD := Lib.hid (fun (y : World) (hb : Below wh.heap.size wh y) => And.intro (HL.out.keep hb) (HM.out.keep hb))
      have CLT := Lib.hid (fun (y : World) (hb : Below wh.heap.size wh y) => len_any y (HLD.out y hb).1.tab)
      have CLR := Lib.hid (fun (y : World) (hb : Below wh.heap.size wh y) => rlen_law y _ (f := h) (m := m) (ca := n) (cb := n) (n := n) n1 HR2.out.ld HR2.out.lr (HLD.out y hb).2.ea (HLD.out y hb).2.eb)
      rw [HR2.out.count] at CLR
      generalize lenF (List.replicate (2 * n) en0) = ll at *
      refine wp_region_held_drew (S := fun y => Below wh.heap.size wh y) (by kernel_rfl) (Below.drew (Below.refl _ _)) (fun hHeld => ?_)
      refine held_take (i := 0) (by rfl) (by kernel_rfl) (by kernel_rfl) (by kernel_rfl) (by intro c a w h; exact h) (by rfl) (by intro w' hSw; go_simp; try with_reducible rfl) hHeld ?_
      try simp only [Act.put, List.setIfInBounds_toArray, List.set_cons_zero, List.set_cons_succ]
      refine held_take (i := 2) (by rfl) (by kernel_rfl) (by kernel_rfl) (by kernel_rfl) (by intro c a w h; exact h) (by rfl) (by intro w' hSw; obtain ⟨s0, s1, s2, s3⟩ := (HLD.out w' hSw).2.cells; go_simp; try with_reducible rfl) hHeld ?_
      try simp only [Act.put, List.setIfInBounds_toArray, List.set_cons_zero, List.set_cons_succ]
      refine wpAnyH_ready (rs := [1]) (by kernel_rfl) (by simp) ?_
      refine held_one (by rfl) (fun K hK => ?_)
      go_simp
      refine (CLT.out _ hHeld).mono ?_
      rintro e9 wi ⟨rfl, hb9⟩
      refine hK.out _ _ (hHeld.trans (hb9.mono hHeld.size)) (fun hHeld9 => ?_)
      clear hb9
      clear hHeld hK K
      have hHeld := hHeld9
      clear hHeld9
      try simp only [Act.put, List.setIfInBounds_toArray, List.set_cons_zero, List.set_cons_succ]
      refine wpAnyH_ready (rs := [3]) (by kernel_rfl) (by simp) ?_
      refine held_one (by rfl) (fun K hK => ?_)
      go_simp
      refine (CLR.out _ hHeld).mono ?_
      rintro e9 wj ⟨rfl, hb9⟩
      refine hK.out _ _ (hHeld.trans (hb9.mono hHeld.size)) (fun hHeld9 => ?_)
      clear hb9
      clear hHeld hK K
      have hHeld := hHeld9
      clear hHeld9
      try simp only [Act.put, List.setIfInBounds_toArray, List.set_cons_zero, List.set_cons_succ]
      refine held_take (i := 4) (by rfl) (by kernel_rfl) (by kernel_rfl) (by kernel_rfl) (by intro c a w h; exact h) (by rfl) (by intro w' hSw; obtain ⟨s0, s1, s2, s3⟩ := (HLD.out w' hSw).2.cells; go_simp; try with_reducible rfl) hHeld ?_
      try simp only [Act.put, List.setIfInBounds_toArray, List.set_cons_zero, List.set_cons_succ]
      refine held_take (i := 5) (by rfl) (by kernel_rfl) (by kernel_rfl) (by kernel_rfl) (by intro c a w h; exact h) (by rfl) (by intro w' hSw; obtain ⟨s0, s1, s2, s3⟩ := (HLD.out w' hSw).2.cells; go_simp; try with_reducible rfl) hHeld ?_
      try simp only [Act.put, List.setIfInBounds_toArray, List.set_cons_zero, List.set_cons_succ]
      refine held_take (i := 6) (by rfl) (by kernel_rfl) (by kernel_rfl) (by kernel_rfl) (by intro c a w h; exact h) (by rfl) (by intro w' hSw; obtain ⟨s0, s1, s2, s3⟩ := (HLD.out w' hSw).2.cells; go_simp; try with_reducible rfl) hHeld ?_
      try simp only [Act.put, List.setIfInBounds_toArray, List.set_cons_zero, List.set_cons_succ]
      refine held_take (i := 7) (by rfl) (by kernel_rfl) (by kernel_rfl) (by kernel_rfl) (by intro c a w h; exact h) (by rfl) (by intro w' hSw; obtain ⟨s0, s1, s2, s3⟩ := (HLD.out w' hSw).2.cells; go_simp; try with_reducible rfl) hHeld ?_
      try simp only [Act.put, List.setIfInBounds_toArray, List.set_cons_zero, List.set_cons_succ]
      refine held_take (i := 8) (by rfl) (by kernel_rfl) (by kernel_rfl) (by kernel_rfl) (by intro c a w h; exact h) (by rfl) (by intro w' hSw; obtain ⟨s0, s1, s2, s3⟩ := (HLD.out w' hSw).2.cells; go_simp; try with_reducible rfl) hHeld ?_
      try simp only [Act.put, List.setIfInBounds_toArray, List.set_cons_zero, List.set_cons_succ]
      refine held_take (i := 9) (by rfl) (by kernel_rfl) (by kernel_rfl) (by kernel_rfl) (by intro c a w h; exact h) (by rfl) (by intro w' hSw; obtain ⟨s0, s1, s2, s3⟩ := (HLD.out w' hSw).2.cells; go_simp; try with_reducible rfl) hHeld ?_
      try simp only [Act.put, List.setIfInBounds_toArray, List.set_cons_zero, List.set_cons_succ]
      refine held_take (i := 10) (by rfl) (by kernel_rfl) (by kernel_rfl) (by kernel_rfl) (by intro c a w h; exact h) (by rfl) (by intro w' hSw; obtain ⟨s0, s1, s2, s3⟩ := (HLD.out w' hSw).2.cells; go_simp; try with_reducible rfl) hHeld ?_
      try simp only [Act.put, List.setIfInBounds_toArray, List.set_cons_zero, List.set_cons_succ]
      refine held_take (i := 11) (by rfl) (by kernel_rfl) (by kernel_rfl) (by kernel_rfl) (by intro c a w h; exact h) (by rfl) (by intro w' hSw; obtain ⟨s0, s1, s2, s3⟩ := (HLD.out w' hSw).2.cells; go_simp; try with_reducible rfl) hHeld ?_
      try simp only [Act.put, List.setIfInBounds_toArray, List.set_cons_zero, List.set_cons_succ]
      refine held_take (i := 12) (by rfl) (by kernel_rfl) (by kernel_rfl) (by kernel_rfl) (by intro c a w h; exact h) (by rfl) (by intro w' hSw; obtain ⟨s0, s1, s2, s3⟩ := (HLD.out w' hSw).2.cells; go_simp; try with_reducible rfl) hHeld ?_
      try simp only [Act.put, List.setIfInBounds_toArray, List.set_cons_zero, List.set_cons_succ]
      refine held_take (i := 13) (by rfl) (by kernel_rfl) (by kernel_rfl) (by kernel_rfl) (by intro c a w h; exact h) (by rfl) (by intro w' hSw; obtain ⟨s0, s1, s2, s3⟩ := (HLD.out w' hSw).2.cells; go_simp; try with_reducible rfl) hHeld ?_
      try simp only [Act.put, List.setIfInBounds_toArray, List.set_cons_zero, List.set_cons_succ]
      refine held_take (i := 14) (by rfl) (by kernel_rfl) (by kernel_rfl) (by kernel_rfl) (by intro c a w h; exact h) (by rfl) (by intro w' hSw; obtain ⟨s0, s1, s2, s3⟩ := (HLD.out w' hSw).2.cells; go_simp; try with_reducible rfl) hHeld ?_
      try simp only [Act.put, List.setIfInBounds_toArray, List.set_cons_zero, List.set_cons_succ]
      refine held_take (i := 15) (by rfl) (by kernel_rfl) (by kernel_rfl) (by kernel_rfl) (by intro c a w h; exact h) (by rfl) (by intro w' hSw; obtain ⟨s0, s1, s2, s3⟩ := (HLD.out w' hSw).2.cells; go_simp; try with_reducible rfl) hHeld ?_
      try simp only [Act.put, List.setIfInBounds_toArray, List.set_cons_zero, List.set_cons_succ]
      refine held_take (i := 16) (by rfl) (by kernel_rfl) (by kernel_rfl) (by kernel_rfl) (by intro c a w h; exact h) (by rfl) (by intro w' hSw; obtain ⟨s0, s1, s2, s3⟩ := (HLD.out w' hSw).2.cells; go_simp; try with_reducible rfl) hHeld ?_
      try simp only [Act.put, List.setIfInBounds_toArray, List.set_cons_zero, List.set_cons_succ]
      refine wpAnyH_done (by kernel_rfl) ?_ _
      have HZ := Lib.hid (HLD.out _ hHeld)
      clear CLT CLR HLD hHeld
      go_wp2_with fail
      go_roundg (l.length - (k + 1))
      case measure => omega
      case rel => exact ⟨k + 1, (List.replicate (2 * n) en0), (List.replicate n en0), (List.replicate n en0), A', B', n, n, h, m, by omega, by go_num, by omega, by omega, by omega, by omega, HZ.out.1, HZ.out.2, HR2.out⟩
    -- Get
    have d1 : (x.kind == 1) = true := by simpa using hk1
    clear hk1
    obtain ⟨r, hr⟩ : ∃ r, getF T (slotI x.key n) x.key x.d = r := ⟨_, rfl⟩
    obtain ⟨z, hz⟩ : ∃ z, r.getD bd0 = z := ⟨_, rfl⟩
    obtain ⟨s, hsm⟩ : ∃ s, r.isSome = s := ⟨_, rfl⟩
    have CG := Lib.hid (fun (y : World) (t : TabM y bt bs n T h m) => get_law y t x.key hks x.d h0 (by omega) m0 (by omega) hr hz hsm)
    have CRR := Lib.hid (fun (y : World) (ea : EnS y (Pq bt bs q) A D) (eb : EnS y (Pq bt bs q) B R) => rget_law y (Pq bt bs q) (ca := ca) (cb := cb) n0 n1 HR.out.ld HR.out.lr ea eb x.key hks x.d h0 (by omega) m0 (by omega) ((HR.out.get (Nat.mod_lt _ n0) x.key x.d).trans hr) hz hsm)
    clear hr hz hsm
    have hh1 : 0 ≤ (if s then h + 1 else h) ∧ (if s then h + 1 else h) ≤ k + 1 := by cases s <;> simp <;> omega
    have hm1 : 0 ≤ (if s then m else m + 1) ∧ (if s then m else m + 1) ≤ k + 1 := by cases s <;> simp <;> omega
    generalize (if s then h + 1 else h) = h' at *
    generalize (if s then m else m + 1) = m' at *
    go_upto_region 17 with (fail)
    go_cut [10, 11] (fun s8 s9 wx => ∃ q', s8 = .pointer (some ⟨q', 0, none⟩) ∧ s9 = .bool s ∧ GS w wx bt bs n T h' m' q' z ∧ MS w wx bt bs q n A B ca cb D R h m)
    case first =>
      refine wp_region_held_drew (S := fun y => y.cell? ⟨ob, oo + k * 7 + 1, none⟩ = some (.string x.key) ∧ y.cell? ⟨ob, oo + k * 7 + 2, none⟩ = some (.int .i64 x.d)) (by kernel_rfl) ⟨o1, o2⟩ (fun hHeld => ?_)
      have HL9 := Lib.hid HL.out.drew
      have HM7 := Lib.hid (HM.out.keep (Below.drew (Below.refl _ _)))
      generalize wr.drew = wd at *
      refine held_take (i := 0) (by rfl) (by kernel_rfl) (by kernel_rfl) (by kernel_rfl) (by intro c a w h; exact h) (by rfl) (by intro w' hSw; obtain ⟨s1, s2⟩ := hSw; go_simp; try with_reducible rfl) hHeld ?_
      try simp only [Act.put, List.setIfInBounds_toArray, List.set_cons_zero, List.set_cons_succ]
      refine held_take (i := 1) (by rfl) (by kernel_rfl) (by kernel_rfl) (by kernel_rfl) (by intro c a w h; exact h) (by rfl) (by intro w' hSw; obtain ⟨s1, s2⟩ := hSw; go_simp; try with_reducible rfl) hHeld ?_
      try simp only [Act.put, List.setIfInBounds_toArray, List.set_cons_zero, List.set_cons_succ]
      refine held_take (i := 2) (by rfl) (by kernel_rfl) (by kernel_rfl) (by kernel_rfl) (by intro c a w h; exact h) (by rfl) (by intro w' hSw; obtain ⟨s1, s2⟩ := hSw; go_simp; try with_reducible rfl) hHeld ?_
      try simp only [Act.put, List.setIfInBounds_toArray, List.set_cons_zero, List.set_cons_succ]
      refine held_take (i := 3) (by rfl) (by kernel_rfl) (by kernel_rfl) (by kernel_rfl) (by intro c a w h; exact h) (by rfl) (by intro w' hSw; obtain ⟨s1, s2⟩ := hSw; go_simp; try with_reducible rfl) hHeld ?_
      try simp only [Act.put, List.setIfInBounds_toArray, List.set_cons_zero, List.set_cons_succ]
      refine held_take (i := 4) (by rfl) (by kernel_rfl) (by kernel_rfl) (by kernel_rfl) (by intro c a w h; exact h) (by rfl) (by intro w' hSw; obtain ⟨s1, s2⟩ := hSw; go_simp; try with_reducible rfl) hHeld ?_
      try simp only [Act.put, List.setIfInBounds_toArray, List.set_cons_zero, List.set_cons_succ]
      refine held_take (i := 5) (by rfl) (by kernel_rfl) (by kernel_rfl) (by kernel_rfl) (by intro c a w h; exact h) (by rfl) (by intro w' hSw; obtain ⟨s1, s2⟩ := hSw; go_simp; try with_reducible rfl) hHeld ?_
      try simp only [Act.put, List.setIfInBounds_toArray, List.set_cons_zero, List.set_cons_succ]
      refine held_take (i := 6) (by rfl) (by kernel_rfl) (by kernel_rfl) (by kernel_rfl) (by intro c a w h; exact h) (by rfl) (by intro w' hSw; obtain ⟨s1, s2⟩ := hSw; go_simp; try with_reducible rfl) hHeld ?_
      try simp only [Act.put, List.setIfInBounds_toArray, List.set_cons_zero, List.set_cons_succ]
      refine held_take (i := 7) (by rfl) (by kernel_rfl) (by kernel_rfl) (by kernel_rfl) (by intro c a w h; exact h) (by rfl) (by intro w' hSw; obtain ⟨s1, s2⟩ := hSw; go_simp; try with_reducible rfl) hHeld ?_
      try simp only [Act.put, List.setIfInBounds_toArray, List.set_cons_zero, List.set_cons_succ]
      refine held_take (i := 8) (by rfl) (by kernel_rfl) (by kernel_rfl) (by kernel_rfl) (by intro c a w h; exact h) (by rfl) (by intro w' hSw; obtain ⟨s1, s2⟩ := hSw; go_simp; try with_reducible rfl) hHeld ?_
      try simp only [Act.put, List.setIfInBounds_toArray, List.set_cons_zero, List.set_cons_succ]
      refine held_take (i := 9) (by rfl) (by kernel_rfl) (by kernel_rfl) (by kernel_rfl) (by intro c a w h; exact h) (by rfl) (by intro w' hSw; obtain ⟨s1, s2⟩ := hSw; go_simp; try with_reducible rfl) hHeld ?_
      try simp only [Act.put, List.setIfInBounds_toArray, List.set_cons_zero, List.set_cons_succ]
      refine held_take (i := 10) (by rfl) (by kernel_rfl) (by kernel_rfl) (by kernel_rfl) (by intro c a w h; exact h) (by rfl) (by intro w' hSw; obtain ⟨s1, s2⟩ := hSw; go_simp; try with_reducible rfl) hHeld ?_
      try simp only [Act.put, List.setIfInBounds_toArray, List.set_cons_zero, List.set_cons_succ]
      refine wpAnyH_ready (rs := [11, 15]) (by kernel_rfl) (by simp) ?_
      refine held_two (by rfl) (by rfl) (fun K hK => ?_) (fun K hK => ?_)
      focus
        go_simp
        refine (CG.out _ HL9.out.tab).mono ?_
        rintro e9 w9 ⟨rfl, ht9, hg9⟩
        have HL8 := Lib.hid (HL9.out.get ht9 hg9)
        have HM8 := Lib.hid (HM7.out.grown hg9 (.inl rfl))
        refine hK.out _ _ ⟨cell_grown hg9 hHeld.1 hob1, cell_grown hg9 hHeld.2 hob1⟩ (fun hHeld9 => ?_)
        clear hHeld hK K ht9 hg9
        have hHeld := hHeld9
        clear hHeld9
        try simp only [Act.put, List.setIfInBounds_toArray, List.set_cons_zero, List.set_cons_succ]
        refine held_take (i := 12) (by rfl) (by kernel_rfl) (by kernel_rfl) (by kernel_rfl) (by intro c a w h; exact h) (by rfl) (by intro w' hSw; obtain ⟨s1, s2⟩ := hSw; go_simp; try with_reducible rfl) hHeld ?_
        try simp only [Act.put, List.setIfInBounds_toArray, List.set_cons_zero, List.set_cons_succ]
        refine held_take (i := 13) (by rfl) (by kernel_rfl) (by kernel_rfl) (by kernel_rfl) (by intro c a w h; exact h) (by rfl) (by intro w' hSw; obtain ⟨s1, s2⟩ := hSw; go_simp; try with_reducible rfl) hHeld ?_
        try simp only [Act.put, List.setIfInBounds_toArray, List.set_cons_zero, List.set_cons_succ]
        refine held_take (i := 14) (by rfl) (by kernel_rfl) (by kernel_rfl) (by kernel_rfl) (by intro c a w h; exact h) (by rfl) (by intro w' hSw; obtain ⟨s1, s2⟩ := hSw; go_simp; try with_reducible rfl) hHeld ?_
        try simp only [Act.put, List.setIfInBounds_toArray, List.set_cons_zero, List.set_cons_succ]
        have hHeld0 := hHeld
        refine wpAnyH_ready (rs := [15]) (by kernel_rfl) (by simp) ?_
        refine held_one (by rfl) (fun K hK => ?_)
        go_simp
        refine hK.out _ _ (⟨(World.cell?_alloc_lt _ _ _ (World.block_lt_of_cell? _ _ hHeld.1)).trans hHeld.1, (World.cell?_alloc_lt _ _ _ (World.block_lt_of_cell? _ _ hHeld.2)).trans hHeld.2⟩) (fun hHeld9 => ?_)
        clear hK K
        have hHeld := hHeld9
        clear hHeld9
        try simp only [Act.put, List.setIfInBounds_toArray, List.set_cons_zero, List.set_cons_succ]
        refine wpAnyH_ready (rs := [16]) (by kernel_rfl) (by simp) ?_
        refine held_one (by rfl) (fun K hK => ?_)
        go_simp
        refine hK.out _ _ (⟨(World.cell?_alloc_lt w9 (.cells #[.int .i64 z.a, .int .i64 z.b, .int .i64 z.c, .int .i64 z.e] 37) _ (World.block_lt_of_cell? w9 _ hHeld0.1)).trans hHeld0.1, (World.cell?_alloc_lt w9 (.cells #[.int .i64 z.a, .int .i64 z.b, .int .i64 z.c, .int .i64 z.e] 37) _ (World.block_lt_of_cell? w9 _ hHeld0.2)).trans hHeld0.2⟩) (fun hHeld9 => ?_)
        clear hK K
        have hHeld := hHeld9
        clear hHeld9
        try simp only [Act.put, List.setIfInBounds_toArray, List.set_cons_zero, List.set_cons_succ]
        refine held_take (i := 17) (by rfl) (by kernel_rfl) (by kernel_rfl) (by kernel_rfl) (by intro c a w h; exact h) (by rfl) (by intro w' hSw; obtain ⟨s1, s2⟩ := hSw; go_simp; try with_reducible rfl) hHeld ?_
        try simp only [Act.put, List.setIfInBounds_toArray, List.set_cons_zero, List.set_cons_succ]
        refine wpAnyH_done (by kernel_rfl) ?_ _
        go_wp2_with fail
        go_meet
        exact ⟨_, rfl, rfl, GS.after HL8.out z, HM8.out.keep ((Below.refl _ _).alloc (Nat.le_refl _) _)⟩
      focus
        go_simp
        have HN := Lib.hid (one_new wd (.cells #[.int .i64 0, .int .i64 0, .int .i64 0, .int .i64 0] 37))
        refine hK.out _ _ ⟨(World.cell?_alloc_lt wd (.cells #[.int .i64 0, .int .i64 0, .int .i64 0, .int .i64 0] 37) _ (World.block_lt_of_cell? wd _ hHeld.1)).trans hHeld.1, (World.cell?_alloc_lt wd (.cells #[.int .i64 0, .int .i64 0, .int .i64 0, .int .i64 0] 37) _ (World.block_lt_of_cell? wd _ hHeld.2)).trans hHeld.2⟩ (fun hHeld9 => ?_)
        clear hHeld hK K
        have hHeld := hHeld9
        clear hHeld9
        try simp only [Act.put, List.setIfInBounds_toArray, List.set_cons_zero, List.set_cons_succ]
        have hqob : wd.heap.size ≠ ob := by have := HL9.out.below.size; omega
        have HL7 := Lib.hid (HL9.out.keep HN.out.1)
        have hq1 : wd.heap.size ≠ bt := by have := HL9.out.tab.lt; omega
        have hq2 : wd.heap.size ≠ bs := by have := HL9.out.tab.lt; omega
        have hq3 : w.heap.size ≤ wd.heap.size := HL9.out.below.size
        generalize wd.alloc (.cells #[.int .i64 0, .int .i64 0, .int .i64 0, .int .i64 0] 37) = we at *
        refine wpAnyH_ready (rs := [11]) (by kernel_rfl) (by simp) ?_
        refine held_one (by rfl) (fun K hK => ?_)
        go_simp
        refine (CG.out _ HL7.out.tab).mono ?_
        rintro e9 w9 ⟨rfl, ht9, hg9⟩
        have HL8 := Lib.hid (HL7.out.get ht9 hg9)
        have HM9 := Lib.hid (HM7.out.grown (box_grown HN.out.1 hg9 z) (.inl rfl))
        have HQ := Lib.hid ((hg9.block _ (Array.getElem?_eq_some_iff.1 HN.out.2).1 (by simpa using hq1)).trans HN.out.2)
        refine hK.out _ _ ⟨cell_grown hg9 hHeld.1 hob1, cell_grown hg9 hHeld.2 hob1⟩ (fun hHeld9 => ?_)
        clear hHeld hK K ht9 hg9
        have hHeld := hHeld9
        clear hHeld9
        try simp only [Act.put, List.setIfInBounds_toArray, List.set_cons_zero, List.set_cons_succ]
        refine held_take (i := 12) (by rfl) (by kernel_rfl) (by kernel_rfl) (by kernel_rfl) (by intro c a w h; exact h) (by rfl) (by intro w' hSw; obtain ⟨s1, s2⟩ := hSw; go_simp; try with_reducible rfl) hHeld ?_
        try simp only [Act.put, List.setIfInBounds_toArray, List.set_cons_zero, List.set_cons_succ]
        refine held_take (i := 13) (by rfl) (by kernel_rfl) (by kernel_rfl) (by kernel_rfl) (by intro c a w h; exact h) (by rfl) (by intro w' hSw; obtain ⟨s1, s2⟩ := hSw; go_simp; try with_reducible rfl) hHeld ?_
        try simp only [Act.put, List.setIfInBounds_toArray, List.set_cons_zero, List.set_cons_succ]
        refine held_take (i := 14) (by rfl) (by kernel_rfl) (by kernel_rfl) (by kernel_rfl) (by intro c a w h; exact h) (by rfl) (by intro w' hSw; obtain ⟨s1, s2⟩ := hSw; go_simp; try with_reducible rfl) hHeld ?_
        try simp only [Act.put, List.setIfInBounds_toArray, List.set_cons_zero, List.set_cons_succ]
        have HG := Lib.hid (GS.ahead HL8.out HQ.out hq1 hq2 hq3 z)
        have c0 := cell_blk HQ.out 0
        have c1 := cell_blk HQ.out 1
        have c2 := cell_blk HQ.out 2
        have c3 := cell_blk HQ.out 3
        have fq : ∀ o, w9.frozen? ⟨wd.heap.size, o, none⟩ = false := fun o => free_blk HQ.out o
        have hqo : wd.heap.size ≠ ob := hqob
        refine wpAnyH_ready (rs := [16]) (by kernel_rfl) (by simp) ?_
        refine held_one (by rfl) (fun K hK => ?_)
        go_simp
        refine hK.out _ _ ⟨?_, ?_⟩ (fun hHeld9 => ?_)
        · exact cells_far hHeld.1 hqo z
        · exact cells_far hHeld.2 hqo z
        clear hHeld hK K c0 c1 c2 c3 fq
        have hHeld := hHeld9
        clear hHeld9
        try simp only [Act.put, List.setIfInBounds_toArray, List.set_cons_zero, List.set_cons_succ]
        refine held_take (i := 17) (by rfl) (by kernel_rfl) (by kernel_rfl) (by kernel_rfl) (by intro c a w h; exact h) (by rfl) (by intro w' hSw; obtain ⟨s1, s2⟩ := hSw; go_simp; try with_reducible rfl) hHeld ?_
        try simp only [Act.put, List.setIfInBounds_toArray, List.set_cons_zero, List.set_cons_succ]
        refine wpAnyH_done (by kernel_rfl) ?_ _
        go_wp2_with fail
        go_meet
        exact ⟨_, rfl, rfl, HG.out, HM9.out⟩
    case rest =>
      obtain ⟨q1, rfl, rfl, hG, hM⟩ := hcut
      have HG := Lib.hid hG
      have HMM := Lib.hid hM
      have hc6 : Six wc.drew q ob (oo + k * 7) A B n ca cb h m x.key x.d := by
        obtain ⟨-, o1, o2, -, -, -, -⟩ := (HCC.out k x HX.out).below hG.ls.below hob
        obtain ⟨t0, t1, t2, t3⟩ := hM.cells
        exact ⟨⟨(Array.getElem?_eq_some_iff.1 hM.blk).1, Nat.lt_of_lt_of_le hob hG.ls.below.size⟩, t0, t1, t2, t3, o1, o2⟩
      clear hG hM CG HL HM o0 o1 o2 o3 o4 o5 o6
      replace HG := Lib.hid (HG.out.keep (Below.drew (Below.refl _ _)))
      replace HMM := Lib.hid (HMM.out.keep (Below.drew (Below.refl _ _)))
      obtain ⟨B0, hB0⟩ : ∃ B0, B0 = wc.drew.heap.size := ⟨_, rfl⟩
      have hBe : ∀ y, Below B0 wc.drew y → Below wc.drew.heap.size wc.drew y := fun y h => by rw [hB0] at h; exact h
      have hBf : ∀ y, Below B0 wc.drew y → B0 ≤ y.heap.size := fun y h => by rw [hB0]; exact h.size
      clear hB0
      go_upto_region 18 with (fail)
      go_cut [12, 13, 14] (fun s12 s13 s14 wx => ∃ qa qb, s12 = .pointer (some ⟨qa, 0, none⟩) ∧ s13 = .pointer (some ⟨qb, 0, none⟩) ∧ s14 = .bool s ∧ wx.heap[qa]? = some (tbO A B n ca cb h' m') ∧ wx.heap[qb]? = some (.cells #[.int .i64 z.a, .int .i64 z.b, .int .i64 z.c, .int .i64 z.e] 37 (0, 0)) ∧ Below B0 wc.drew wx)
      case first =>
        have CR := Lib.hid (fun (y : World) (hb : Below B0 wc.drew y) => CRR.out y (HMM.out.keep (hBe y hb)).ea (HMM.out.keep (hBe y hb)).eb)
        clear HG HMM CRR
        refine wp_region_held_drew (S := fun y => Below B0 wc.drew y) (by kernel_rfl) (Below.refl _ _) (fun hHeld => ?_)
        generalize wc.drew = wd at *
        refine held_take (i := 0) (by rfl) (by kernel_rfl) (by kernel_rfl) (by kernel_rfl) (by intro c a w h; exact h) (by rfl) (by intro w' hSw; obtain ⟨s0, s1, s2, s3, s4, s5⟩ := six_below (hBe _ hSw) hc6; go_simp; try with_reducible rfl) hHeld ?_
        try simp only [Act.put, List.setIfInBounds_toArray, List.set_cons_zero, List.set_cons_succ]
        refine held_take (i := 1) (by rfl) (by kernel_rfl) (by kernel_rfl) (by kernel_rfl) (by intro c a w h; exact h) (by rfl) (by intro w' hSw; obtain ⟨s0, s1, s2, s3, s4, s5⟩ := six_below (hBe _ hSw) hc6; go_simp; try with_reducible rfl) hHeld ?_
        try simp only [Act.put, List.setIfInBounds_toArray, List.set_cons_zero, List.set_cons_succ]
        refine held_take (i := 2) (by rfl) (by kernel_rfl) (by kernel_rfl) (by kernel_rfl) (by intro c a w h; exact h) (by rfl) (by intro w' hSw; obtain ⟨s0, s1, s2, s3, s4, s5⟩ := six_below (hBe _ hSw) hc6; go_simp; try with_reducible rfl) hHeld ?_
        try simp only [Act.put, List.setIfInBounds_toArray, List.set_cons_zero, List.set_cons_succ]
        refine held_take (i := 3) (by rfl) (by kernel_rfl) (by kernel_rfl) (by kernel_rfl) (by intro c a w h; exact h) (by rfl) (by intro w' hSw; obtain ⟨s0, s1, s2, s3, s4, s5⟩ := six_below (hBe _ hSw) hc6; go_simp; try with_reducible rfl) hHeld ?_
        try simp only [Act.put, List.setIfInBounds_toArray, List.set_cons_zero, List.set_cons_succ]
        refine held_take (i := 4) (by rfl) (by kernel_rfl) (by kernel_rfl) (by kernel_rfl) (by intro c a w h; exact h) (by rfl) (by intro w' hSw; obtain ⟨s0, s1, s2, s3, s4, s5⟩ := six_below (hBe _ hSw) hc6; go_simp; try with_reducible rfl) hHeld ?_
        try simp only [Act.put, List.setIfInBounds_toArray, List.set_cons_zero, List.set_cons_succ]
        refine held_take (i := 5) (by rfl) (by kernel_rfl) (by kernel_rfl) (by kernel_rfl) (by intro c a w h; exact h) (by rfl) (by intro w' hSw; obtain ⟨s0, s1, s2, s3, s4, s5⟩ := six_below (hBe _ hSw) hc6; go_simp; try with_reducible rfl) hHeld ?_
        try simp only [Act.put, List.setIfInBounds_toArray, List.set_cons_zero, List.set_cons_succ]
        refine held_take (i := 6) (by rfl) (by kernel_rfl) (by kernel_rfl) (by kernel_rfl) (by intro c a w h; exact h) (by rfl) (by intro w' hSw; obtain ⟨s0, s1, s2, s3, s4, s5⟩ := six_below (hBe _ hSw) hc6; go_simp; try with_reducible rfl) hHeld ?_
        try simp only [Act.put, List.setIfInBounds_toArray, List.set_cons_zero, List.set_cons_succ]
        refine held_take (i := 7) (by rfl) (by kernel_rfl) (by kernel_rfl) (by kernel_rfl) (by intro c a w h; exact h) (by rfl) (by intro w' hSw; obtain ⟨s0, s1, s2, s3, s4, s5⟩ := six_below (hBe _ hSw) hc6; go_simp; try with_reducible rfl) hHeld ?_
        try simp only [Act.put, List.setIfInBounds_toArray, List.set_cons_zero, List.set_cons_succ]
        refine held_take (i := 8) (by rfl) (by kernel_rfl) (by kernel_rfl) (by kernel_rfl) (by intro c a w h; exact h) (by rfl) (by intro w' hSw; obtain ⟨s0, s1, s2, s3, s4, s5⟩ := six_below (hBe _ hSw) hc6; go_simp; try with_reducible rfl) hHeld ?_
        try simp only [Act.put, List.setIfInBounds_toArray, List.set_cons_zero, List.set_cons_succ]
        refine held_take (i := 9) (by rfl) (by kernel_rfl) (by kernel_rfl) (by kernel_rfl) (by intro c a w h; exact h) (by rfl) (by intro w' hSw; obtain ⟨s0, s1, s2, s3, s4, s5⟩ := six_below (hBe _ hSw) hc6; go_simp; try with_reducible rfl) hHeld ?_
        try simp only [Act.put, List.setIfInBounds_toArray, List.set_cons_zero, List.set_cons_succ]
        refine held_take (i := 10) (by rfl) (by kernel_rfl) (by kernel_rfl) (by kernel_rfl) (by intro c a w h; exact h) (by rfl) (by intro w' hSw; obtain ⟨s0, s1, s2, s3, s4, s5⟩ := six_below (hBe _ hSw) hc6; go_simp; try with_reducible rfl) hHeld ?_
        try simp only [Act.put, List.setIfInBounds_toArray, List.set_cons_zero, List.set_cons_succ]
        clear hc6 hBe
        refine wpAnyH_ready (rs := [11, 16, 17]) (by kernel_rfl) (by simp) ?_
        refine held_three (by rfl) (by rfl) (by rfl) (fun K hK => ?_) (fun K hK => ?_) (fun K hK => ?_)
        focus
          go_simp
          refine (CR.out _ hHeld).mono ?_
          rintro e9 w20 ⟨rfl, hb9⟩
          refine hK.out _ _ (hHeld.trans (hb9.mono (hBf _ hHeld))) (fun hHeld9 => ?_)
          clear hb9
          clear hHeld hK K
          have hHeld := hHeld9
          clear hHeld9
          try simp only [Act.put, List.setIfInBounds_toArray, List.set_cons_zero, List.set_cons_succ]
          refine held_take (i := 12) (by rfl) (by kernel_rfl) (by kernel_rfl) (by kernel_rfl) (by intro c a w h; exact h) (by rfl) (by intro w' hSw; go_simp; try with_reducible rfl) hHeld ?_
          try simp only [Act.put, List.setIfInBounds_toArray, List.set_cons_zero, List.set_cons_succ]
          refine held_take (i := 13) (by rfl) (by kernel_rfl) (by kernel_rfl) (by kernel_rfl) (by intro c a w h; exact h) (by rfl) (by intro w' hSw; go_simp; try with_reducible rfl) hHeld ?_
          try simp only [Act.put, List.setIfInBounds_toArray, List.set_cons_zero, List.set_cons_succ]
          refine held_take (i := 14) (by rfl) (by kernel_rfl) (by kernel_rfl) (by kernel_rfl) (by intro c a w h; exact h) (by rfl) (by intro w' hSw; go_simp; try with_reducible rfl) hHeld ?_
          try simp only [Act.put, List.setIfInBounds_toArray, List.set_cons_zero, List.set_cons_succ]
          refine held_take (i := 15) (by rfl) (by kernel_rfl) (by kernel_rfl) (by kernel_rfl) (by intro c a w h; exact h) (by rfl) (by intro w' hSw; go_simp; try with_reducible rfl) hHeld ?_
          try simp only [Act.put, List.setIfInBounds_toArray, List.set_cons_zero, List.set_cons_succ]
          refine wpAnyH_ready (rs := [16, 17]) (by kernel_rfl) (by simp) ?_
          refine held_two (by rfl) (by rfl) (fun K hK => ?_) (fun K hK => ?_)
          focus
            go_simp
            have HN := Lib.hid (one_new w20 (.cells #[.slice none 0 0, .slice none 0 0, .int .i64 0, .int .i64 0] 46))
            have hqa : B0 ≤ w20.heap.size := hBf _ hHeld
            refine hK.out _ _ (hHeld.alloc (hBf _ hHeld) _) (fun hHeld9 => ?_)
            clear hHeld hK K
            have hHeld := hHeld9
            clear hHeld9
            try simp only [Act.put, List.setIfInBounds_toArray, List.set_cons_zero, List.set_cons_succ]
            have Hqa := Lib.hid HN.out.2
            clear HN
            generalize w20.alloc (.cells #[.slice none 0 0, .slice none 0 0, .int .i64 0, .int .i64 0] 46) = w21 at *
            generalize w20.heap.size = qa at *
            refine wpAnyH_ready (rs := [17]) (by kernel_rfl) (by simp) ?_
            refine held_one (by rfl) (fun K hK => ?_)
            go_simp
            have HN := Lib.hid (one_new w21 (.cells #[.int .i64 0, .int .i64 0, .int .i64 0, .int .i64 0] 37))
            have hqb : B0 ≤ w21.heap.size := hBf _ hHeld
            have hne : w21.heap.size ≠ qa := by have := (Array.getElem?_eq_some_iff.1 Hqa.out).1; omega
            replace Hqa := Lib.hid (blk_keep HN.out.1 Hqa.out)
            refine hK.out _ _ (hHeld.alloc (hBf _ hHeld) _) (fun hHeld9 => ?_)
            clear hHeld hK K
            have hHeld := hHeld9
            clear hHeld9
            try simp only [Act.put, List.setIfInBounds_toArray, List.set_cons_zero, List.set_cons_succ]
            have Hqb := Lib.hid HN.out.2
            clear HN
            generalize w21.alloc (.cells #[.int .i64 0, .int .i64 0, .int .i64 0, .int .i64 0] 37) = w22 at *
            generalize w21.heap.size = qb at *
            have hqq : qa ≠ qb := by omega
            have c0 := cell_blk Hqa.out 0
            have c1 := cell_blk Hqa.out 1
            have c2 := cell_blk Hqa.out 2
            have c3 := cell_blk Hqa.out 3
            have fq : ∀ o, w22.frozen? ⟨qa, o, none⟩ = false := fun o => free_blk Hqa.out o
            refine wpAnyH_ready (rs := [18]) (by kernel_rfl) (by simp) ?_
            refine held_one (by rfl) (fun K hK => ?_)
            go_simp
            refine hK.out _ _ (below_stT hHeld hqa (.slice A n ca) (.slice B n cb) (.int .i64 h') (.int .i64 m')) (fun hHeld9 => ?_)
            clear hHeld hK K
            have hHeld := hHeld9
            clear hHeld9
            try simp only [Act.put, List.setIfInBounds_toArray, List.set_cons_zero, List.set_cons_succ]
            replace Hqb := Lib.hid ((grown_stT w22 qa (.slice A n ca) (.slice B n cb) (.int .i64 h') (.int .i64 m')).block _ (Array.getElem?_eq_some_iff.1 Hqb.out).1 (by simp; omega) |>.trans Hqb.out)
            replace Hqa := Lib.hid (stT_blk Hqa.out (.slice A n ca) (.slice B n cb) (.int .i64 h') (.int .i64 m'))
            clear c0 c1 c2 c3 fq
            generalize (((w22.setCell ⟨qa, 0, none⟩ (.slice A n ca)).setCell ⟨qa, 1, none⟩ (.slice B n cb)).setCell ⟨qa, 2, none⟩ (.int .i64 h')).setCell ⟨qa, 3, none⟩ (.int .i64 m') = wp at *
            have c0 := cell_blk Hqb.out 0
            have c1 := cell_blk Hqb.out 1
            have c2 := cell_blk Hqb.out 2
            have c3 := cell_blk Hqb.out 3
            have fq : ∀ o, wp.frozen? ⟨qb, o, none⟩ = false := fun o => free_blk Hqb.out o
            refine wpAnyH_ready (rs := [19]) (by kernel_rfl) (by simp) ?_
            refine held_one (by rfl) (fun K hK => ?_)
            go_simp
            refine hK.out _ _ (below_stT hHeld hqb (.int .i64 z.a) (.int .i64 z.b) (.int .i64 z.c) (.int .i64 z.e)) (fun hHeld9 => ?_)
            clear hHeld hK K
            have hHeld := hHeld9
            clear hHeld9
            try simp only [Act.put, List.setIfInBounds_toArray, List.set_cons_zero, List.set_cons_succ]
            replace Hqa := Lib.hid ((grown_stT wp qb (.int .i64 z.a) (.int .i64 z.b) (.int .i64 z.c) (.int .i64 z.e)).block _ (Array.getElem?_eq_some_iff.1 Hqa.out).1 (by simp; omega) |>.trans Hqa.out)
            replace Hqb := Lib.hid (stT_blk Hqb.out (.int .i64 z.a) (.int .i64 z.b) (.int .i64 z.c) (.int .i64 z.e))
            clear c0 c1 c2 c3 fq
            generalize (((wp.setCell ⟨qb, 0, none⟩ (.int .i64 z.a)).setCell ⟨qb, 1, none⟩ (.int .i64 z.b)).setCell ⟨qb, 2, none⟩ (.int .i64 z.c)).setCell ⟨qb, 3, none⟩ (.int .i64 z.e) = wr9 at *
            refine held_take (i := 20) (by rfl) (by kernel_rfl) (by kernel_rfl) (by kernel_rfl) (by intro c a w h; exact h) (by rfl) (by intro w' hSw; go_simp; try with_reducible rfl) hHeld ?_
            try simp only [Act.put, List.setIfInBounds_toArray, List.set_cons_zero, List.set_cons_succ]
            refine wpAnyH_done (by kernel_rfl) ?_ _
            go_wp2_with fail
            go_meet
            exact ⟨qa, qb, rfl, rfl, rfl, Hqa.out, Hqb.out, hHeld⟩
          focus
            go_simp
            have HN := Lib.hid (one_new w20 (.cells #[.int .i64 0, .int .i64 0, .int .i64 0, .int .i64 0] 37))
            have hqb : B0 ≤ w20.heap.size := hBf _ hHeld
            refine hK.out _ _ (hHeld.alloc (hBf _ hHeld) _) (fun hHeld9 => ?_)
            clear hHeld hK K
            have hHeld := hHeld9
            clear hHeld9
            try simp only [Act.put, List.setIfInBounds_toArray, List.set_cons_zero, List.set_cons_succ]
            have Hqb := Lib.hid HN.out.2
            clear HN
            generalize w20.alloc (.cells #[.int .i64 0, .int .i64 0, .int .i64 0, .int .i64 0] 37) = w21 at *
            generalize w20.heap.size = qb at *
            refine wpAnyH_ready (rs := [16]) (by kernel_rfl) (by simp) ?_
            refine held_one (by rfl) (fun K hK => ?_)
            go_simp
            have HN := Lib.hid (one_new w21 (.cells #[.slice none 0 0, .slice none 0 0, .int .i64 0, .int .i64 0] 46))
            have hqa : B0 ≤ w21.heap.size := hBf _ hHeld
            have hne : w21.heap.size ≠ qb := by have := (Array.getElem?_eq_some_iff.1 Hqb.out).1; omega
            replace Hqb := Lib.hid (blk_keep HN.out.1 Hqb.out)
            refine hK.out _ _ (hHeld.alloc (hBf _ hHeld) _) (fun hHeld9 => ?_)
            clear hHeld hK K
            have hHeld := hHeld9
            clear hHeld9
            try simp only [Act.put, List.setIfInBounds_toArray, List.set_cons_zero, List.set_cons_succ]
            have Hqa := Lib.hid HN.out.2
            clear HN
            generalize w21.alloc (.cells #[.slice none 0 0, .slice none 0 0, .int .i64 0, .int .i64 0] 46) = w22 at *
            generalize w21.heap.size = qa at *
            have hqq : qa ≠ qb := by omega
            have c0 := cell_blk Hqa.out 0
            have c1 := cell_blk Hqa.out 1
            have c2 := cell_blk Hqa.out 2
            have c3 := cell_blk Hqa.out 3
            have fq : ∀ o, w22.frozen? ⟨qa, o, none⟩ = false := fun o => free_blk Hqa.out o
            refine wpAnyH_ready (rs := [18]) (by kernel_rfl) (by simp) ?_
            refine held_one (by rfl) (fun K hK => ?_)
            go_simp
            refine hK.out _ _ (below_stT hHeld hqa (.slice A n ca) (.slice B n cb) (.int .i64 h') (.int .i64 m')) (fun hHeld9 => ?_)
            clear hHeld hK K
            have hHeld := hHeld9
            clear hHeld9
            try simp only [Act.put, List.setIfInBounds_toArray, List.set_cons_zero, List.set_cons_succ]
            replace Hqb := Lib.hid ((grown_stT w22 qa (.slice A n ca) (.slice B n cb) (.int .i64 h') (.int .i64 m')).block _ (Array.getElem?_eq_some_iff.1 Hqb.out).1 (by simp; omega) |>.trans Hqb.out)
            replace Hqa := Lib.hid (stT_blk Hqa.out (.slice A n ca) (.slice B n cb) (.int .i64 h') (.int .i64 m'))
            clear c0 c1 c2 c3 fq
            generalize (((w22.setCell ⟨qa, 0, none⟩ (.slice A n ca)).setCell ⟨qa, 1, none⟩ (.slice B n cb)).setCell ⟨qa, 2, none⟩ (.int .i64 h')).setCell ⟨qa, 3, none⟩ (.int .i64 m') = wp at *
            have c0 := cell_blk Hqb.out 0
            have c1 := cell_blk Hqb.out 1
            have c2 := cell_blk Hqb.out 2
            have c3 := cell_blk Hqb.out 3
            have fq : ∀ o, wp.frozen? ⟨qb, o, none⟩ = false := fun o => free_blk Hqb.out o
            refine wpAnyH_ready (rs := [19]) (by kernel_rfl) (by simp) ?_
            refine held_one (by rfl) (fun K hK => ?_)
            go_simp
            refine hK.out _ _ (below_stT hHeld hqb (.int .i64 z.a) (.int .i64 z.b) (.int .i64 z.c) (.int .i64 z.e)) (fun hHeld9 => ?_)
            clear hHeld hK K
            have hHeld := hHeld9
            clear hHeld9
            try simp only [Act.put, List.setIfInBounds_toArray, List.set_cons_zero, List.set_cons_succ]
            replace Hqa := Lib.hid ((grown_stT wp qb (.int .i64 z.a) (.int .i64 z.b) (.int .i64 z.c) (.int .i64 z.e)).block _ (Array.getElem?_eq_some_iff.1 Hqa.out).1 (by simp; omega) |>.trans Hqa.out)
            replace Hqb := Lib.hid (stT_blk Hqb.out (.int .i64 z.a) (.int .i64 z.b) (.int .i64 z.c) (.int .i64 z.e))
            clear c0 c1 c2 c3 fq
            generalize (((wp.setCell ⟨qb, 0, none⟩ (.int .i64 z.a)).setCell ⟨qb, 1, none⟩ (.int .i64 z.b)).setCell ⟨qb, 2, none⟩ (.int .i64 z.c)).setCell ⟨qb, 3, none⟩ (.int .i64 z.e) = wr9 at *
            refine held_take (i := 20) (by rfl) (by kernel_rfl) (by kernel_rfl) (by kernel_rfl) (by intro c a w h; exact h) (by rfl) (by intro w' hSw; go_simp; try with_reducible rfl) hHeld ?_
            try simp only [Act.put, List.setIfInBounds_toArray, List.set_cons_zero, List.set_cons_succ]
            refine wpAnyH_done (by kernel_rfl) ?_ _
            go_wp2_with fail
            go_meet
            exact ⟨qa, qb, rfl, rfl, rfl, Hqa.out, Hqb.out, hHeld⟩
        focus
          go_simp
          have HN := Lib.hid (one_new wd (.cells #[.slice none 0 0, .slice none 0 0, .int .i64 0, .int .i64 0] 46))
          have hqa : B0 ≤ wd.heap.size := hBf _ hHeld
          refine hK.out _ _ (hHeld.alloc (hBf _ hHeld) _) (fun hHeld9 => ?_)
          clear hHeld hK K
          have hHeld := hHeld9
          clear hHeld9
          try simp only [Act.put, List.setIfInBounds_toArray, List.set_cons_zero, List.set_cons_succ]
          have Hqa := Lib.hid HN.out.2
          clear HN
          generalize wd.alloc (.cells #[.slice none 0 0, .slice none 0 0, .int .i64 0, .int .i64 0] 46) = w20 at *
          generalize wd.heap.size = qa at *
          refine wpAnyH_ready (rs := [11, 17]) (by kernel_rfl) (by simp) ?_
          refine held_two (by rfl) (by rfl) (fun K hK => ?_) (fun K hK => ?_)
          focus
            go_simp
            refine (CR.out _ hHeld).mono ?_
            rintro e9 w21 ⟨rfl, hb9⟩
            replace Hqa := Lib.hid (blk_keep hb9 Hqa.out)
            refine hK.out _ _ (hHeld.trans (hb9.mono (hBf _ hHeld))) (fun hHeld9 => ?_)
            clear hb9
            clear hHeld hK K
            have hHeld := hHeld9
            clear hHeld9
            try simp only [Act.put, List.setIfInBounds_toArray, List.set_cons_zero, List.set_cons_succ]
            refine held_take (i := 12) (by rfl) (by kernel_rfl) (by kernel_rfl) (by kernel_rfl) (by intro c a w h; exact h) (by rfl) (by intro w' hSw; go_simp; try with_reducible rfl) hHeld ?_
            try simp only [Act.put, List.setIfInBounds_toArray, List.set_cons_zero, List.set_cons_succ]
            refine held_take (i := 13) (by rfl) (by kernel_rfl) (by kernel_rfl) (by kernel_rfl) (by intro c a w h; exact h) (by rfl) (by intro w' hSw; go_simp; try with_reducible rfl) hHeld ?_
            try simp only [Act.put, List.setIfInBounds_toArray, List.set_cons_zero, List.set_cons_succ]
            refine held_take (i := 14) (by rfl) (by kernel_rfl) (by kernel_rfl) (by kernel_rfl) (by intro c a w h; exact h) (by rfl) (by intro w' hSw; go_simp; try with_reducible rfl) hHeld ?_
            try simp only [Act.put, List.setIfInBounds_toArray, List.set_cons_zero, List.set_cons_succ]
            refine held_take (i := 15) (by rfl) (by kernel_rfl) (by kernel_rfl) (by kernel_rfl) (by intro c a w h; exact h) (by rfl) (by intro w' hSw; go_simp; try with_reducible rfl) hHeld ?_
            try simp only [Act.put, List.setIfInBounds_toArray, List.set_cons_zero, List.set_cons_succ]
            refine wpAnyH_ready (rs := [17]) (by kernel_rfl) (by simp) ?_
            refine held_one (by rfl) (fun K hK => ?_)
            go_simp
            have HN := Lib.hid (one_new w21 (.cells #[.int .i64 0, .int .i64 0, .int .i64 0, .int .i64 0] 37))
            have hqb : B0 ≤ w21.heap.size := hBf _ hHeld
            have hne : w21.heap.size ≠ qa := by have := (Array.getElem?_eq_some_iff.1 Hqa.out).1; omega
            replace Hqa := Lib.hid (blk_keep HN.out.1 Hqa.out)
            refine hK.out _ _ (hHeld.alloc (hBf _ hHeld) _) (fun hHeld9 => ?_)
            clear hHeld hK K
            have hHeld := hHeld9
            clear hHeld9
            try simp only [Act.put, List.setIfInBounds_toArray, List.set_cons_zero, List.set_cons_succ]
            have Hqb := Lib.hid HN.out.2
            clear HN
            generalize w21.alloc (.cells #[.int .i64 0, .int .i64 0, .int .i64 0, .int .i64 0] 37) = w22 at *
            generalize w21.heap.size = qb at *
            have hqq : qa ≠ qb := by omega
            have c0 := cell_blk Hqa.out 0
            have c1 := cell_blk Hqa.out 1
            have c2 := cell_blk Hqa.out 2
            have c3 := cell_blk Hqa.out 3
            have fq : ∀ o, w22.frozen? ⟨qa, o, none⟩ = false := fun o => free_blk Hqa.out o
            refine wpAnyH_ready (rs := [18]) (by kernel_rfl) (by simp) ?_
            refine held_one (by rfl) (fun K hK => ?_)
            go_simp
            refine hK.out _ _ (below_stT hHeld hqa (.slice A n ca) (.slice B n cb) (.int .i64 h') (.int .i64 m')) (fun hHeld9 => ?_)
            clear hHeld hK K
            have hHeld := hHeld9
            clear hHeld9
            try simp only [Act.put, List.setIfInBounds_toArray, List.set_cons_zero, List.set_cons_succ]
            replace Hqb := Lib.hid ((grown_stT w22 qa (.slice A n ca) (.slice B n cb) (.int .i64 h') (.int .i64 m')).block _ (Array.getElem?_eq_some_iff.1 Hqb.out).1 (by simp; omega) |>.trans Hqb.out)
            replace Hqa := Lib.hid (stT_blk Hqa.out (.slice A n ca) (.slice B n cb) (.int .i64 h') (.int .i64 m'))
            clear c0 c1 c2 c3 fq
            generalize (((w22.setCell ⟨qa, 0, none⟩ (.slice A n ca)).setCell ⟨qa, 1, none⟩ (.slice B n cb)).setCell ⟨qa, 2, none⟩ (.int .i64 h')).setCell ⟨qa, 3, none⟩ (.int .i64 m') = wp at *
            have c0 := cell_blk Hqb.out 0
            have c1 := cell_blk Hqb.out 1
            have c2 := cell_blk Hqb.out 2
            have c3 := cell_blk Hqb.out 3
            have fq : ∀ o, wp.frozen? ⟨qb, o, none⟩ = false := fun o => free_blk Hqb.out o
            refine wpAnyH_ready (rs := [19]) (by kernel_rfl) (by simp) ?_
            refine held_one (by rfl) (fun K hK => ?_)
            go_simp
            refine hK.out _ _ (below_stT hHeld hqb (.int .i64 z.a) (.int .i64 z.b) (.int .i64 z.c) (.int .i64 z.e)) (fun hHeld9 => ?_)
            clear hHeld hK K
            have hHeld := hHeld9
            clear hHeld9
            try simp only [Act.put, List.setIfInBounds_toArray, List.set_cons_zero, List.set_cons_succ]
            replace Hqa := Lib.hid ((grown_stT wp qb (.int .i64 z.a) (.int .i64 z.b) (.int .i64 z.c) (.int .i64 z.e)).block _ (Array.getElem?_eq_some_iff.1 Hqa.out).1 (by simp; omega) |>.trans Hqa.out)
            replace Hqb := Lib.hid (stT_blk Hqb.out (.int .i64 z.a) (.int .i64 z.b) (.int .i64 z.c) (.int .i64 z.e))
            clear c0 c1 c2 c3 fq
            generalize (((wp.setCell ⟨qb, 0, none⟩ (.int .i64 z.a)).setCell ⟨qb, 1, none⟩ (.int .i64 z.b)).setCell ⟨qb, 2, none⟩ (.int .i64 z.c)).setCell ⟨qb, 3, none⟩ (.int .i64 z.e) = wr9 at *
            refine held_take (i := 20) (by rfl) (by kernel_rfl) (by kernel_rfl) (by kernel_rfl) (by intro c a w h; exact h) (by rfl) (by intro w' hSw; go_simp; try with_reducible rfl) hHeld ?_
            try simp only [Act.put, List.setIfInBounds_toArray, List.set_cons_zero, List.set_cons_succ]
            refine wpAnyH_done (by kernel_rfl) ?_ _
            go_wp2_with fail
            go_meet
            exact ⟨qa, qb, rfl, rfl, rfl, Hqa.out, Hqb.out, hHeld⟩
          focus
            go_simp
            have HN := Lib.hid (one_new w20 (.cells #[.int .i64 0, .int .i64 0, .int .i64 0, .int .i64 0] 37))
            have hqb : B0 ≤ w20.heap.size := hBf _ hHeld
            have hne : w20.heap.size ≠ qa := by have := (Array.getElem?_eq_some_iff.1 Hqa.out).1; omega
            replace Hqa := Lib.hid (blk_keep HN.out.1 Hqa.out)
            refine hK.out _ _ (hHeld.alloc (hBf _ hHeld) _) (fun hHeld9 => ?_)
            clear hHeld hK K
            have hHeld := hHeld9
            clear hHeld9
            try simp only [Act.put, List.setIfInBounds_toArray, List.set_cons_zero, List.set_cons_succ]
            have Hqb := Lib.hid HN.out.2
            clear HN
            generalize w20.alloc (.cells #[.int .i64 0, .int .i64 0, .int .i64 0, .int .i64 0] 37) = w21 at *
            generalize w20.heap.size = qb at *
            refine wpAnyH_ready (rs := [11]) (by kernel_rfl) (by simp) ?_
            refine held_one (by rfl) (fun K hK => ?_)
            go_simp
            refine (CR.out _ hHeld).mono ?_
            rintro e9 w22 ⟨rfl, hb9⟩
            replace Hqa := Lib.hid (blk_keep hb9 Hqa.out)
            replace Hqb := Lib.hid (blk_keep hb9 Hqb.out)
            refine hK.out _ _ (hHeld.trans (hb9.mono (hBf _ hHeld))) (fun hHeld9 => ?_)
            clear hb9
            clear hHeld hK K
            have hHeld := hHeld9
            clear hHeld9
            try simp only [Act.put, List.setIfInBounds_toArray, List.set_cons_zero, List.set_cons_succ]
            refine held_take (i := 12) (by rfl) (by kernel_rfl) (by kernel_rfl) (by kernel_rfl) (by intro c a w h; exact h) (by rfl) (by intro w' hSw; go_simp; try with_reducible rfl) hHeld ?_
            try simp only [Act.put, List.setIfInBounds_toArray, List.set_cons_zero, List.set_cons_succ]
            refine held_take (i := 13) (by rfl) (by kernel_rfl) (by kernel_rfl) (by kernel_rfl) (by intro c a w h; exact h) (by rfl) (by intro w' hSw; go_simp; try with_reducible rfl) hHeld ?_
            try simp only [Act.put, List.setIfInBounds_toArray, List.set_cons_zero, List.set_cons_succ]
            refine held_take (i := 14) (by rfl) (by kernel_rfl) (by kernel_rfl) (by kernel_rfl) (by intro c a w h; exact h) (by rfl) (by intro w' hSw; go_simp; try with_reducible rfl) hHeld ?_
            try simp only [Act.put, List.setIfInBounds_toArray, List.set_cons_zero, List.set_cons_succ]
            refine held_take (i := 15) (by rfl) (by kernel_rfl) (by kernel_rfl) (by kernel_rfl) (by intro c a w h; exact h) (by rfl) (by intro w' hSw; go_simp; try with_reducible rfl) hHeld ?_
            try simp only [Act.put, List.setIfInBounds_toArray, List.set_cons_zero, List.set_cons_succ]
            have hqq : qa ≠ qb := by omega
            have c0 := cell_blk Hqa.out 0
            have c1 := cell_blk Hqa.out 1
            have c2 := cell_blk Hqa.out 2
            have c3 := cell_blk Hqa.out 3
            have fq : ∀ o, w22.frozen? ⟨qa, o, none⟩ = false := fun o => free_blk Hqa.out o
            refine wpAnyH_ready (rs := [18]) (by kernel_rfl) (by simp) ?_
            refine held_one (by rfl) (fun K hK => ?_)
            go_simp
            refine hK.out _ _ (below_stT hHeld hqa (.slice A n ca) (.slice B n cb) (.int .i64 h') (.int .i64 m')) (fun hHeld9 => ?_)
            clear hHeld hK K
            have hHeld := hHeld9
            clear hHeld9
            try simp only [Act.put, List.setIfInBounds_toArray, List.set_cons_zero, List.set_cons_succ]
            replace Hqb := Lib.hid ((grown_stT w22 qa (.slice A n ca) (.slice B n cb) (.int .i64 h') (.int .i64 m')).block _ (Array.getElem?_eq_some_iff.1 Hqb.out).1 (by simp; omega) |>.trans Hqb.out)
            replace Hqa := Lib.hid (stT_blk Hqa.out (.slice A n ca) (.slice B n cb) (.int .i64 h') (.int .i64 m'))
            clear c0 c1 c2 c3 fq
            generalize (((w22.setCell ⟨qa, 0, none⟩ (.slice A n ca)).setCell ⟨qa, 1, none⟩ (.slice B n cb)).setCell ⟨qa, 2, none⟩ (.int .i64 h')).setCell ⟨qa, 3, none⟩ (.int .i64 m') = wp at *
            have c0 := cell_blk Hqb.out 0
            have c1 := cell_blk Hqb.out 1
            have c2 := cell_blk Hqb.out 2
            have c3 := cell_blk Hqb.out 3
            have fq : ∀ o, wp.frozen? ⟨qb, o, none⟩ = false := fun o => free_blk Hqb.out o
            refine wpAnyH_ready (rs := [19]) (by kernel_rfl) (by simp) ?_
            refine held_one (by rfl) (fun K hK => ?_)
            go_simp
            refine hK.out _ _ (below_stT hHeld hqb (.int .i64 z.a) (.int .i64 z.b) (.int .i64 z.c) (.int .i64 z.e)) (fun hHeld9 => ?_)
            clear hHeld hK K
            have hHeld := hHeld9
            clear hHeld9
            try simp only [Act.put, List.setIfInBounds_toArray, List.set_cons_zero, List.set_cons_succ]
            replace Hqa := Lib.hid ((grown_stT wp qb (.int .i64 z.a) (.int .i64 z.b) (.int .i64 z.c) (.int .i64 z.e)).block _ (Array.getElem?_eq_some_iff.1 Hqa.out).1 (by simp; omega) |>.trans Hqa.out)
            replace Hqb := Lib.hid (stT_blk Hqb.out (.int .i64 z.a) (.int .i64 z.b) (.int .i64 z.c) (.int .i64 z.e))
            clear c0 c1 c2 c3 fq
            generalize (((wp.setCell ⟨qb, 0, none⟩ (.int .i64 z.a)).setCell ⟨qb, 1, none⟩ (.int .i64 z.b)).setCell ⟨qb, 2, none⟩ (.int .i64 z.c)).setCell ⟨qb, 3, none⟩ (.int .i64 z.e) = wr9 at *
            refine held_take (i := 20) (by rfl) (by kernel_rfl) (by kernel_rfl) (by kernel_rfl) (by intro c a w h; exact h) (by rfl) (by intro w' hSw; go_simp; try with_reducible rfl) hHeld ?_
            try simp only [Act.put, List.setIfInBounds_toArray, List.set_cons_zero, List.set_cons_succ]
            refine wpAnyH_done (by kernel_rfl) ?_ _
            go_wp2_with fail
            go_meet
            exact ⟨qa, qb, rfl, rfl, rfl, Hqa.out, Hqb.out, hHeld⟩
        focus
          go_simp
          have HN := Lib.hid (one_new wd (.cells #[.int .i64 0, .int .i64 0, .int .i64 0, .int .i64 0] 37))
          have hqb : B0 ≤ wd.heap.size := hBf _ hHeld
          refine hK.out _ _ (hHeld.alloc (hBf _ hHeld) _) (fun hHeld9 => ?_)
          clear hHeld hK K
          have hHeld := hHeld9
          clear hHeld9
          try simp only [Act.put, List.setIfInBounds_toArray, List.set_cons_zero, List.set_cons_succ]
          have Hqb := Lib.hid HN.out.2
          clear HN
          generalize wd.alloc (.cells #[.int .i64 0, .int .i64 0, .int .i64 0, .int .i64 0] 37) = w20 at *
          generalize wd.heap.size = qb at *
          refine wpAnyH_ready (rs := [11, 16]) (by kernel_rfl) (by simp) ?_
          refine held_two (by rfl) (by rfl) (fun K hK => ?_) (fun K hK => ?_)
          focus
            go_simp
            refine (CR.out _ hHeld).mono ?_
            rintro e9 w21 ⟨rfl, hb9⟩
            replace Hqb := Lib.hid (blk_keep hb9 Hqb.out)
            refine hK.out _ _ (hHeld.trans (hb9.mono (hBf _ hHeld))) (fun hHeld9 => ?_)
            clear hb9
            clear hHeld hK K
            have hHeld := hHeld9
            clear hHeld9
            try simp only [Act.put, List.setIfInBounds_toArray, List.set_cons_zero, List.set_cons_succ]
            refine held_take (i := 12) (by rfl) (by kernel_rfl) (by kernel_rfl) (by kernel_rfl) (by intro c a w h; exact h) (by rfl) (by intro w' hSw; go_simp; try with_reducible rfl) hHeld ?_
            try simp only [Act.put, List.setIfInBounds_toArray, List.set_cons_zero, List.set_cons_succ]
            refine held_take (i := 13) (by rfl) (by kernel_rfl) (by kernel_rfl) (by kernel_rfl) (by intro c a w h; exact h) (by rfl) (by intro w' hSw; go_simp; try with_reducible rfl) hHeld ?_
            try simp only [Act.put, List.setIfInBounds_toArray, List.set_cons_zero, List.set_cons_succ]
            refine held_take (i := 14) (by rfl) (by kernel_rfl) (by kernel_rfl) (by kernel_rfl) (by intro c a w h; exact h) (by rfl) (by intro w' hSw; go_simp; try with_reducible rfl) hHeld ?_
            try simp only [Act.put, List.setIfInBounds_toArray, List.set_cons_zero, List.set_cons_succ]
            refine held_take (i := 15) (by rfl) (by kernel_rfl) (by kernel_rfl) (by kernel_rfl) (by intro c a w h; exact h) (by rfl) (by intro w' hSw; go_simp; try with_reducible rfl) hHeld ?_
            try simp only [Act.put, List.setIfInBounds_toArray, List.set_cons_zero, List.set_cons_succ]
            refine wpAnyH_ready (rs := [16]) (by kernel_rfl) (by simp) ?_
            refine held_one (by rfl) (fun K hK => ?_)
            go_simp
            have HN := Lib.hid (one_new w21 (.cells #[.slice none 0 0, .slice none 0 0, .int .i64 0, .int .i64 0] 46))
            have hqa : B0 ≤ w21.heap.size := hBf _ hHeld
            have hne : w21.heap.size ≠ qb := by have := (Array.getElem?_eq_some_iff.1 Hqb.out).1; omega
            replace Hqb := Lib.hid (blk_keep HN.out.1 Hqb.out)
            refine hK.out _ _ (hHeld.alloc (hBf _ hHeld) _) (fun hHeld9 => ?_)
            clear hHeld hK K
            have hHeld := hHeld9
            clear hHeld9
            try simp only [Act.put, List.setIfInBounds_toArray, List.set_cons_zero, List.set_cons_succ]
            have Hqa := Lib.hid HN.out.2
            clear HN
            generalize w21.alloc (.cells #[.slice none 0 0, .slice none 0 0, .int .i64 0, .int .i64 0] 46) = w22 at *
            generalize w21.heap.size = qa at *
            have hqq : qa ≠ qb := by omega
            have c0 := cell_blk Hqa.out 0
            have c1 := cell_blk Hqa.out 1
            have c2 := cell_blk Hqa.out 2
            have c3 := cell_blk Hqa.out 3
            have fq : ∀ o, w22.frozen? ⟨qa, o, none⟩ = false := fun o => free_blk Hqa.out o
            refine wpAnyH_ready (rs := [18]) (by kernel_rfl) (by simp) ?_
            refine held_one (by rfl) (fun K hK => ?_)
            go_simp
            refine hK.out _ _ (below_stT hHeld hqa (.slice A n ca) (.slice B n cb) (.int .i64 h') (.int .i64 m')) (fun hHeld9 => ?_)
            clear hHeld hK K
            have hHeld := hHeld9
            clear hHeld9
            try simp only [Act.put, List.setIfInBounds_toArray, List.set_cons_zero, List.set_cons_succ]
            replace Hqb := Lib.hid ((grown_stT w22 qa (.slice A n ca) (.slice B n cb) (.int .i64 h') (.int .i64 m')).block _ (Array.getElem?_eq_some_iff.1 Hqb.out).1 (by simp; omega) |>.trans Hqb.out)
            replace Hqa := Lib.hid (stT_blk Hqa.out (.slice A n ca) (.slice B n cb) (.int .i64 h') (.int .i64 m'))
            clear c0 c1 c2 c3 fq
            generalize (((w22.setCell ⟨qa, 0, none⟩ (.slice A n ca)).setCell ⟨qa, 1, none⟩ (.slice B n cb)).setCell ⟨qa, 2, none⟩ (.int .i64 h')).setCell ⟨qa, 3, none⟩ (.int .i64 m') = wp at *
            have c0 := cell_blk Hqb.out 0
            have c1 := cell_blk Hqb.out 1
            have c2 := cell_blk Hqb.out 2
            have c3 := cell_blk Hqb.out 3
            have fq : ∀ o, wp.frozen? ⟨qb, o, none⟩ = false := fun o => free_blk Hqb.out o
            refine wpAnyH_ready (rs := [19]) (by kernel_rfl) (by simp) ?_
            refine held_one (by rfl) (fun K hK => ?_)
            go_simp
            refine hK.out _ _ (below_stT hHeld hqb (.int .i64 z.a) (.int .i64 z.b) (.int .i64 z.c) (.int .i64 z.e)) (fun hHeld9 => ?_)
            clear hHeld hK K
            have hHeld := hHeld9
            clear hHeld9
            try simp only [Act.put, List.setIfInBounds_toArray, List.set_cons_zero, List.set_cons_succ]
            replace Hqa := Lib.hid ((grown_stT wp qb (.int .i64 z.a) (.int .i64 z.b) (.int .i64 z.c) (.int .i64 z.e)).block _ (Array.getElem?_eq_some_iff.1 Hqa.out).1 (by simp; omega) |>.trans Hqa.out)
            replace Hqb := Lib.hid (stT_blk Hqb.out (.int .i64 z.a) (.int .i64 z.b) (.int .i64 z.c) (.int .i64 z.e))
            clear c0 c1 c2 c3 fq
            generalize (((wp.setCell ⟨qb, 0, none⟩ (.int .i64 z.a)).setCell ⟨qb, 1, none⟩ (.int .i64 z.b)).setCell ⟨qb, 2, none⟩ (.int .i64 z.c)).setCell ⟨qb, 3, none⟩ (.int .i64 z.e) = wr9 at *
            refine held_take (i := 20) (by rfl) (by kernel_rfl) (by kernel_rfl) (by kernel_rfl) (by intro c a w h; exact h) (by rfl) (by intro w' hSw; go_simp; try with_reducible rfl) hHeld ?_
            try simp only [Act.put, List.setIfInBounds_toArray, List.set_cons_zero, List.set_cons_succ]
            refine wpAnyH_done (by kernel_rfl) ?_ _
            go_wp2_with fail
            go_meet
            exact ⟨qa, qb, rfl, rfl, rfl, Hqa.out, Hqb.out, hHeld⟩
          focus
            go_simp
            have HN := Lib.hid (one_new w20 (.cells #[.slice none 0 0, .slice none 0 0, .int .i64 0, .int .i64 0] 46))
            have hqa : B0 ≤ w20.heap.size := hBf _ hHeld
            have hne : w20.heap.size ≠ qb := by have := (Array.getElem?_eq_some_iff.1 Hqb.out).1; omega
            replace Hqb := Lib.hid (blk_keep HN.out.1 Hqb.out)
            refine hK.out _ _ (hHeld.alloc (hBf _ hHeld) _) (fun hHeld9 => ?_)
            clear hHeld hK K
            have hHeld := hHeld9
            clear hHeld9
            try simp only [Act.put, List.setIfInBounds_toArray, List.set_cons_zero, List.set_cons_succ]
            have Hqa := Lib.hid HN.out.2
            clear HN
            generalize w20.alloc (.cells #[.slice none 0 0, .slice none 0 0, .int .i64 0, .int .i64 0] 46) = w21 at *
            generalize w20.heap.size = qa at *
            refine wpAnyH_ready (rs := [11]) (by kernel_rfl) (by simp) ?_
            refine held_one (by rfl) (fun K hK => ?_)
            go_simp
            refine (CR.out _ hHeld).mono ?_
            rintro e9 w22 ⟨rfl, hb9⟩
            replace Hqa := Lib.hid (blk_keep hb9 Hqa.out)
            replace Hqb := Lib.hid (blk_keep hb9 Hqb.out)
            refine hK.out _ _ (hHeld.trans (hb9.mono (hBf _ hHeld))) (fun hHeld9 => ?_)
            clear hb9
            clear hHeld hK K
            have hHeld := hHeld9
            clear hHeld9
            try simp only [Act.put, List.setIfInBounds_toArray, List.set_cons_zero, List.set_cons_succ]
            refine held_take (i := 12) (by rfl) (by kernel_rfl) (by kernel_rfl) (by kernel_rfl) (by intro c a w h; exact h) (by rfl) (by intro w' hSw; go_simp; try with_reducible rfl) hHeld ?_
            try simp only [Act.put, List.setIfInBounds_toArray, List.set_cons_zero, List.set_cons_succ]
            refine held_take (i := 13) (by rfl) (by kernel_rfl) (by kernel_rfl) (by kernel_rfl) (by intro c a w h; exact h) (by rfl) (by intro w' hSw; go_simp; try with_reducible rfl) hHeld ?_
            try simp only [Act.put, List.setIfInBounds_toArray, List.set_cons_zero, List.set_cons_succ]
            refine held_take (i := 14) (by rfl) (by kernel_rfl) (by kernel_rfl) (by kernel_rfl) (by intro c a w h; exact h) (by rfl) (by intro w' hSw; go_simp; try with_reducible rfl) hHeld ?_
            try simp only [Act.put, List.setIfInBounds_toArray, List.set_cons_zero, List.set_cons_succ]
            refine held_take (i := 15) (by rfl) (by kernel_rfl) (by kernel_rfl) (by kernel_rfl) (by intro c a w h; exact h) (by rfl) (by intro w' hSw; go_simp; try with_reducible rfl) hHeld ?_
            try simp only [Act.put, List.setIfInBounds_toArray, List.set_cons_zero, List.set_cons_succ]
            have hqq : qa ≠ qb := by omega
            have c0 := cell_blk Hqa.out 0
            have c1 := cell_blk Hqa.out 1
            have c2 := cell_blk Hqa.out 2
            have c3 := cell_blk Hqa.out 3
            have fq : ∀ o, w22.frozen? ⟨qa, o, none⟩ = false := fun o => free_blk Hqa.out o
            refine wpAnyH_ready (rs := [18]) (by kernel_rfl) (by simp) ?_
            refine held_one (by rfl) (fun K hK => ?_)
            go_simp
            refine hK.out _ _ (below_stT hHeld hqa (.slice A n ca) (.slice B n cb) (.int .i64 h') (.int .i64 m')) (fun hHeld9 => ?_)
            clear hHeld hK K
            have hHeld := hHeld9
            clear hHeld9
            try simp only [Act.put, List.setIfInBounds_toArray, List.set_cons_zero, List.set_cons_succ]
            replace Hqb := Lib.hid ((grown_stT w22 qa (.slice A n ca) (.slice B n cb) (.int .i64 h') (.int .i64 m')).block _ (Array.getElem?_eq_some_iff.1 Hqb.out).1 (by simp; omega) |>.trans Hqb.out)
            replace Hqa := Lib.hid (stT_blk Hqa.out (.slice A n ca) (.slice B n cb) (.int .i64 h') (.int .i64 m'))
            clear c0 c1 c2 c3 fq
            generalize (((w22.setCell ⟨qa, 0, none⟩ (.slice A n ca)).setCell ⟨qa, 1, none⟩ (.slice B n cb)).setCell ⟨qa, 2, none⟩ (.int .i64 h')).setCell ⟨qa, 3, none⟩ (.int .i64 m') = wp at *
            have c0 := cell_blk Hqb.out 0
            have c1 := cell_blk Hqb.out 1
            have c2 := cell_blk Hqb.out 2
            have c3 := cell_blk Hqb.out 3
            have fq : ∀ o, wp.frozen? ⟨qb, o, none⟩ = false := fun o => free_blk Hqb.out o
            refine wpAnyH_ready (rs := [19]) (by kernel_rfl) (by simp) ?_
            refine held_one (by rfl) (fun K hK => ?_)
            go_simp
            refine hK.out _ _ (below_stT hHeld hqb (.int .i64 z.a) (.int .i64 z.b) (.int .i64 z.c) (.int .i64 z.e)) (fun hHeld9 => ?_)
            clear hHeld hK K
            have hHeld := hHeld9
            clear hHeld9
            try simp only [Act.put, List.setIfInBounds_toArray, List.set_cons_zero, List.set_cons_succ]
            replace Hqa := Lib.hid ((grown_stT wp qb (.int .i64 z.a) (.int .i64 z.b) (.int .i64 z.c) (.int .i64 z.e)).block _ (Array.getElem?_eq_some_iff.1 Hqa.out).1 (by simp; omega) |>.trans Hqa.out)
            replace Hqb := Lib.hid (stT_blk Hqb.out (.int .i64 z.a) (.int .i64 z.b) (.int .i64 z.c) (.int .i64 z.e))
            clear c0 c1 c2 c3 fq
            generalize (((wp.setCell ⟨qb, 0, none⟩ (.int .i64 z.a)).setCell ⟨qb, 1, none⟩ (.int .i64 z.b)).setCell ⟨qb, 2, none⟩ (.int .i64 z.c)).setCell ⟨qb, 3, none⟩ (.int .i64 z.e) = wr9 at *
            refine held_take (i := 20) (by rfl) (by kernel_rfl) (by kernel_rfl) (by kernel_rfl) (by intro c a w h; exact h) (by rfl) (by intro w' hSw; go_simp; try with_reducible rfl) hHeld ?_
            try simp only [Act.put, List.setIfInBounds_toArray, List.set_cons_zero, List.set_cons_succ]
            refine wpAnyH_done (by kernel_rfl) ?_ _
            go_wp2_with fail
            go_meet
            exact ⟨qa, qb, rfl, rfl, rfl, Hqa.out, Hqb.out, hHeld⟩
      case rest =>
        obtain ⟨qa, qb, rfl, rfl, rfl, hqa, hqb, hb0⟩ := hcut
        have hb := hBe _ hb0
        clear hb0
        replace HG := Lib.hid (HG.out.keep hb)
        have HM := Lib.hid (HMM.out.keep hb)
        have HQ := Lib.hid hqa
        have v0 := cell_blk hqb 0
        have v1 := cell_blk hqb 1
        have v2 := cell_blk hqb 2
        have v3 := cell_blk hqb 3
        have u0 := cell_blk HG.out.blk 0
        have u1 := cell_blk HG.out.blk 1
        have u2 := cell_blk HG.out.blk 2
        have u3 := cell_blk HG.out.blk 3
        have x0 := cell_blk hqa 0
        have x1 := cell_blk hqa 1
        have x2 := cell_blk hqa 2
        have x3 := cell_blk hqa 3
        have HM2 := Lib.hid (HM.out.store h' m' HM.out.ea HM.out.eb (ca' := ca) (cb' := cb))
        have HL2 := Lib.hid (HG.out.ls.store HM.out.q0 HM.out.q1 HM.out.q2 (.slice A n ca) (.slice B n cb) (.int .i64 h') (.int .i64 m'))
        have t0 := HM.out.cells.1
        have t1 := HM.out.cells.2.1
        have t2 := HM.out.cells.2.2.1
        have t3 := HM.out.cells.2.2.2
        have ft := HM.out.free
        clear hqa hqb hb HMM HM HG HQ CRR
        have HL := HL2
        have HM := HM2
        clear HL2 HM2
        cases s
        all_goals
          go_wp2_with fail
          clear t0 t1 t2 t3 ft u0 u1 u2 u3 v0 v1 v2 v3 x0 x1 x2 x3
          generalize (((wc.setCell ⟨q, 0, none⟩ (.slice A n ca)).setCell ⟨q, 1, none⟩ (.slice B n cb)).setCell ⟨q, 2, none⟩ (.int .i64 h')).setCell ⟨q, 3, none⟩ (.int .i64 m') = wg at *
          go_wp2_with fail
          refine (hits_any _ HL.out.tab).mono ?_
          rintro e9 wh ⟨rfl, hb⟩
          replace HL := Lib.hid (HL.out.keep hb)
          replace HM := Lib.hid (HM.out.keep hb)
          clear hb
          go_wp2_with fail
          have HLD := Lib.hid (fun (y : World) (hb : Below wh.heap.size wh y) => And.intro (HL.out.keep hb) (HM.out.keep hb))
          have CLT := Lib.hid (fun (y : World) (hb : Below wh.heap.size wh y) => len_any y (HLD.out y hb).1.tab)
          have CLR := Lib.hid (fun (y : World) (hb : Below wh.heap.size wh y) => rlen_law y _ (f := h') (m := m') (ca := ca) (cb := cb) (n := n) n1 HR.out.ld HR.out.lr (HLD.out y hb).2.ea (HLD.out y hb).2.eb)
          rw [HR.out.count] at CLR
          generalize lenF T = ll at *
          refine wp_region_held_drew (S := fun y => Below wh.heap.size wh y) (by kernel_rfl) (Below.drew (Below.refl _ _)) (fun hHeld => ?_)
          refine held_take (i := 0) (by rfl) (by kernel_rfl) (by kernel_rfl) (by kernel_rfl) (by intro c a w h; exact h) (by rfl) (by intro w' hSw; go_simp; try with_reducible rfl) hHeld ?_
          try simp only [Act.put, List.setIfInBounds_toArray, List.set_cons_zero, List.set_cons_succ]
          refine held_take (i := 2) (by rfl) (by kernel_rfl) (by kernel_rfl) (by kernel_rfl) (by intro c a w h; exact h) (by rfl) (by intro w' hSw; obtain ⟨s0, s1, s2, s3⟩ := (HLD.out w' hSw).2.cells; go_simp; try with_reducible rfl) hHeld ?_
          try simp only [Act.put, List.setIfInBounds_toArray, List.set_cons_zero, List.set_cons_succ]
          refine wpAnyH_ready (rs := [1]) (by kernel_rfl) (by simp) ?_
          refine held_one (by rfl) (fun K hK => ?_)
          go_simp
          refine (CLT.out _ hHeld).mono ?_
          rintro e9 wi ⟨rfl, hb9⟩
          refine hK.out _ _ (hHeld.trans (hb9.mono hHeld.size)) (fun hHeld9 => ?_)
          clear hb9
          clear hHeld hK K
          have hHeld := hHeld9
          clear hHeld9
          try simp only [Act.put, List.setIfInBounds_toArray, List.set_cons_zero, List.set_cons_succ]
          refine wpAnyH_ready (rs := [3]) (by kernel_rfl) (by simp) ?_
          refine held_one (by rfl) (fun K hK => ?_)
          go_simp
          refine (CLR.out _ hHeld).mono ?_
          rintro e9 wj ⟨rfl, hb9⟩
          refine hK.out _ _ (hHeld.trans (hb9.mono hHeld.size)) (fun hHeld9 => ?_)
          clear hb9
          clear hHeld hK K
          have hHeld := hHeld9
          clear hHeld9
          try simp only [Act.put, List.setIfInBounds_toArray, List.set_cons_zero, List.set_cons_succ]
          refine held_take (i := 4) (by rfl) (by kernel_rfl) (by kernel_rfl) (by kernel_rfl) (by intro c a w h; exact h) (by rfl) (by intro w' hSw; obtain ⟨s0, s1, s2, s3⟩ := (HLD.out w' hSw).2.cells; go_simp; try with_reducible rfl) hHeld ?_
          try simp only [Act.put, List.setIfInBounds_toArray, List.set_cons_zero, List.set_cons_succ]
          refine held_take (i := 5) (by rfl) (by kernel_rfl) (by kernel_rfl) (by kernel_rfl) (by intro c a w h; exact h) (by rfl) (by intro w' hSw; obtain ⟨s0, s1, s2, s3⟩ := (HLD.out w' hSw).2.cells; go_simp; try with_reducible rfl) hHeld ?_
          try simp only [Act.put, List.setIfInBounds_toArray, List.set_cons_zero, List.set_cons_succ]
          refine held_take (i := 6) (by rfl) (by kernel_rfl) (by kernel_rfl) (by kernel_rfl) (by intro c a w h; exact h) (by rfl) (by intro w' hSw; obtain ⟨s0, s1, s2, s3⟩ := (HLD.out w' hSw).2.cells; go_simp; try with_reducible rfl) hHeld ?_
          try simp only [Act.put, List.setIfInBounds_toArray, List.set_cons_zero, List.set_cons_succ]
          refine held_take (i := 7) (by rfl) (by kernel_rfl) (by kernel_rfl) (by kernel_rfl) (by intro c a w h; exact h) (by rfl) (by intro w' hSw; obtain ⟨s0, s1, s2, s3⟩ := (HLD.out w' hSw).2.cells; go_simp; try with_reducible rfl) hHeld ?_
          try simp only [Act.put, List.setIfInBounds_toArray, List.set_cons_zero, List.set_cons_succ]
          refine held_take (i := 8) (by rfl) (by kernel_rfl) (by kernel_rfl) (by kernel_rfl) (by intro c a w h; exact h) (by rfl) (by intro w' hSw; obtain ⟨s0, s1, s2, s3⟩ := (HLD.out w' hSw).2.cells; go_simp; try with_reducible rfl) hHeld ?_
          try simp only [Act.put, List.setIfInBounds_toArray, List.set_cons_zero, List.set_cons_succ]
          refine held_take (i := 9) (by rfl) (by kernel_rfl) (by kernel_rfl) (by kernel_rfl) (by intro c a w h; exact h) (by rfl) (by intro w' hSw; obtain ⟨s0, s1, s2, s3⟩ := (HLD.out w' hSw).2.cells; go_simp; try with_reducible rfl) hHeld ?_
          try simp only [Act.put, List.setIfInBounds_toArray, List.set_cons_zero, List.set_cons_succ]
          refine held_take (i := 10) (by rfl) (by kernel_rfl) (by kernel_rfl) (by kernel_rfl) (by intro c a w h; exact h) (by rfl) (by intro w' hSw; obtain ⟨s0, s1, s2, s3⟩ := (HLD.out w' hSw).2.cells; go_simp; try with_reducible rfl) hHeld ?_
          try simp only [Act.put, List.setIfInBounds_toArray, List.set_cons_zero, List.set_cons_succ]
          refine held_take (i := 11) (by rfl) (by kernel_rfl) (by kernel_rfl) (by kernel_rfl) (by intro c a w h; exact h) (by rfl) (by intro w' hSw; obtain ⟨s0, s1, s2, s3⟩ := (HLD.out w' hSw).2.cells; go_simp; try with_reducible rfl) hHeld ?_
          try simp only [Act.put, List.setIfInBounds_toArray, List.set_cons_zero, List.set_cons_succ]
          refine held_take (i := 12) (by rfl) (by kernel_rfl) (by kernel_rfl) (by kernel_rfl) (by intro c a w h; exact h) (by rfl) (by intro w' hSw; obtain ⟨s0, s1, s2, s3⟩ := (HLD.out w' hSw).2.cells; go_simp; try with_reducible rfl) hHeld ?_
          try simp only [Act.put, List.setIfInBounds_toArray, List.set_cons_zero, List.set_cons_succ]
          refine held_take (i := 13) (by rfl) (by kernel_rfl) (by kernel_rfl) (by kernel_rfl) (by intro c a w h; exact h) (by rfl) (by intro w' hSw; obtain ⟨s0, s1, s2, s3⟩ := (HLD.out w' hSw).2.cells; go_simp; try with_reducible rfl) hHeld ?_
          try simp only [Act.put, List.setIfInBounds_toArray, List.set_cons_zero, List.set_cons_succ]
          refine held_take (i := 14) (by rfl) (by kernel_rfl) (by kernel_rfl) (by kernel_rfl) (by intro c a w h; exact h) (by rfl) (by intro w' hSw; obtain ⟨s0, s1, s2, s3⟩ := (HLD.out w' hSw).2.cells; go_simp; try with_reducible rfl) hHeld ?_
          try simp only [Act.put, List.setIfInBounds_toArray, List.set_cons_zero, List.set_cons_succ]
          refine held_take (i := 15) (by rfl) (by kernel_rfl) (by kernel_rfl) (by kernel_rfl) (by intro c a w h; exact h) (by rfl) (by intro w' hSw; obtain ⟨s0, s1, s2, s3⟩ := (HLD.out w' hSw).2.cells; go_simp; try with_reducible rfl) hHeld ?_
          try simp only [Act.put, List.setIfInBounds_toArray, List.set_cons_zero, List.set_cons_succ]
          refine held_take (i := 16) (by rfl) (by kernel_rfl) (by kernel_rfl) (by kernel_rfl) (by intro c a w h; exact h) (by rfl) (by intro w' hSw; obtain ⟨s0, s1, s2, s3⟩ := (HLD.out w' hSw).2.cells; go_simp; try with_reducible rfl) hHeld ?_
          try simp only [Act.put, List.setIfInBounds_toArray, List.set_cons_zero, List.set_cons_succ]
          refine wpAnyH_done (by kernel_rfl) ?_ _
          have HZ := Lib.hid (HLD.out _ hHeld)
          clear CLT CLR HLD hHeld
          go_wp2_with fail
          go_roundg (l.length - (k + 1))
          case measure => omega
          case rel => exact ⟨k + 1, T, D, R, A, B, ca, cb, h', m', by omega, by go_num, by omega, by omega, by omega, by omega, HZ.out.1, HZ.out.2, HR.out⟩
end Go.Proofs.YtggffmbhpgioaaaDoor
