/- Merged texts: The walk of (*parser.reader).term. The walks of (*parser.reader).atom and .literal. -/
import Derived.Test.YthkbnjojkeeffaaDoorTc
namespace Go.Proofs.YthkbnjojkeeffaaDoor
/- The walk of (*parser.reader).term. -/
section
open Go Go.RowKit
set_option linter.unusedSimpArgs false

theorem grown_set (w : World) (r o : Nat) (u : Value) : w.grownBy (w.setCell ⟨r, o, none⟩ u) (some r) :=
  ⟨rfl, rfl, rfl, by simp, fun k _ hk => Below.heap_setCell _ _ _ _ (fun e => hk (by rw [e]))⟩
/-- a block of the call's own is written -/
theorem Moved.other {w w4 w5 : World} {rb tb cap : Nat} {toks ts : List Tok} {r4 : Nat} (h : Moved w rb tb cap toks ts w4) (hg : w4.grownBy w5 (some r4)) (hr : w.heap.size ≤ r4) (hrb : rb < w.heap.size) (htb : tb < w.heap.size) : Moved w rb tb cap toks ts w5 := by
  obtain ⟨⟨i, hi⟩, hm⟩ := h
  have hs := hm.size
  have hne : ∀ k, k < w4.heap.size → k ≠ r4 → w5.heap[k]? = w4.heap[k]? := fun k hk hn => hg.block k hk (fun e => hn (by injection e))
  refine ⟨⟨i, hi.lt, hi.ts_, (hne rb (by omega) (by omega)).trans hi.blk, hi.tk.keep (hne tb (by omega) (by omega)) hg.size, hi.ne, hi.big, hi.fin⟩, ⟨hg.os.trans hm.os, hg.tape.trans hm.tape, hg.output.trans hm.output, Nat.le_trans hs hg.size, fun k hk hn => (hne k (by omega) (by omega)).trans (hm.block k hk hn)⟩⟩
theorem TmV.other {w4 w5 : World} {B B' : Nat} {x : List Value} {t : Tm} {r4 : Nat} (h : TmV w4 (fun b => B ≤ b) x t) (hg : w4.grownBy w5 (some r4)) (hr : r4 < B) (hB : B' ≤ B) : TmV w5 (fun b => B' ≤ b) x t :=
  h.keep (fun b hb hlt => ⟨by omega, hg.block b hlt (fun e => by injection e; omega)⟩) hg.size
theorem TmV.leaf (w : World) (P : Nat → Prop) (nm : List UInt8) : TmV w P [.string (bs nm), .slice none 0 0] (.mk nm []) :=
  TmV.mk nm none 0 [] [] rfl (fun h => absurd h (Nat.not_lt_zero _)) (fun _ _ _ h => by simp at h)

theorem cells_two {w : World} {b : Nat} {x y : Value} {t : TypeId} (h : w.heap[b]? = some (.cells #[x, y] t (0, 0))) :
    w.cell? ⟨b, 0, none⟩ = some x ∧ w.cell? ⟨b, 1, none⟩ = some y ∧ w.frozen? ⟨b, 0, none⟩ = false ∧ w.frozen? ⟨b, 1, none⟩ = false := by
  refine ⟨?_, ?_, ?_, ?_⟩
  · rw [cell_of_row w b 0 _ _ _ h]; rfl
  · rw [cell_of_row w b 1 _ _ _ h]; rfl
  · simp [World.frozen?, h]
  · simp [World.frozen?, h]

set_option maxHeartbeats 4000000 in
set_option maxRecDepth 100000 in
theorem term_of (d : Nat) (hd4 : d ≤ 4) (IC : ∀ d', d = d' + 1 → ∀ (w : World) (rb tb cap : Nat) (toks ts : List Tok) (i : Nat), Rd w rb tb cap toks ts i → (hd ts).kind = 1 → ∀ lev : Int, lev + d' = 4 →
      Calls Tryd.prog 89 #[.pointer (some ⟨rb, 0, none⟩), .int .i64 lev] w (TPost w rb tb cap toks (compF (termF d') ts)))
    (w : World) (rb tb cap : Nat) (toks ts : List Tok) (i : Nat) (h : Rd w rb tb cap toks ts i) (lev : Int) (hlev : lev + d = 5) :
    Calls Tryd.prog 106 #[.pointer (some ⟨rb, 0, none⟩), .int .i64 lev] w (TPost w rb tb cap toks (termF d ts)) := by
  have HR := Lib.hid h
  have hrw := h.rlt
  have htw := h.tk.1
  have hsm : (i : Int) < 20000 := by have := h.lt; have := h.big; omega
  clear h
  have HIC := Lib.hid IC
  clear IC
  go_enter Tryd.func106, Tryd.ntmps106
  go_wp2_with fail
  have HR1 := Lib.hid (HR.out.below (w' := w.alloc (.cells #[.string ⟨#[]⟩, .slice none 0 0] 24)) ((Below.refl _ _).alloc (Nat.le_refl _) _))
  refine (token_any HR1.out).mono ?_
  rintro e w1 ⟨rfl, hb1⟩
  have hsz : w.heap.size < w1.heap.size := by have := hb1.size; simp at this; omega
  have hres : w1.heap[w.heap.size]? = some (.cells #[.string ⟨#[]⟩, .slice none 0 0] 24 (0, 0)) := (hb1.block _ (by simp)).trans (heap_alloc_new w _)
  have HB1 := Lib.hid (hb1.trans (((Below.refl w1.heap.size w1).alloc (Nat.le_refl _) (.cells #[.int .i64 (hd ts).kind, .string (bs (hd ts).text), .int .i64 (hd ts).pos] 87)).mono hb1.size))
  have HR2 := Lib.hid (HR1.out.below HB1.out)
  have HG2 := Lib.hid (grown_trans (World.grownBy_alloc w (.cells #[.string ⟨#[]⟩, .slice none 0 0] 24) (some rb)) (grown_of_below HB1.out (some rb)))
  have hres2 : (w1.alloc (.cells #[.int .i64 (hd ts).kind, .string (bs (hd ts).text), .int .i64 (hd ts).pos] 87)).heap[w.heap.size]? = some (.cells #[.string ⟨#[]⟩, .slice none 0 0] 24 (0, 0)) := (Below.heap_alloc _ _ _ hsz).trans hres
  have HRES := Lib.hid hres2
  clear hb1 hres hres2 HR1 HB1
  have hB : begT ts = ((hd ts).kind == 1 || (hd ts).kind == 2 || (hd ts).kind == 3) := rfl
  simp only []
  iterate 12 (first | go_skip | go_guarded | go_step | go_upon | go_back)
  have T0 : (w1.alloc (.cells #[.int .i64 (hd ts).kind, .string (bs (hd ts).text), .int .i64 (hd ts).pos] 87)).cell? ⟨w1.heap.size, 0, none⟩ = some (.int .i64 (hd ts).kind) := by
    rw [cell_of_row _ _ 0 _ _ _ (heap_alloc_new w1 _)]; rfl
  have T1 : (w1.alloc (.cells #[.int .i64 (hd ts).kind, .string (bs (hd ts).text), .int .i64 (hd ts).pos] 87)).cell? ⟨w1.heap.size, 1, none⟩ = some (.string (bs (hd ts).text)) := by
    rw [cell_of_row _ _ 1 _ _ _ (heap_alloc_new w1 _)]; rfl
  generalize w1.alloc (.cells #[.int .i64 (hd ts).kind, .string (bs (hd ts).text), .int .i64 (hd ts).pos] 87) = w2 at *
  have hbt : rb ≠ w1.heap.size := by omega
  generalize w1.heap.size = bt at *
  have hd : (((hd ts).kind == 1) = false ∧ ((hd ts).kind == 2) = false ∧ ((hd ts).kind == 3) = false) ∨ ((hd ts).kind == 1) = true ∨ (((hd ts).kind == 1) = false ∧ ((hd ts).kind == 2) = true) ∨ (((hd ts).kind == 1) = false ∧ ((hd ts).kind == 2) = false ∧ ((hd ts).kind == 3) = true) := by
    cases (hd ts).kind == 1 <;> cases (hd ts).kind == 2 <;> cases (hd ts).kind == 3 <;> simp
  obtain ⟨k1, k2, k3⟩ | k1 | ⟨k1, k2⟩ | ⟨k1, k2, k3⟩ := hd
  all_goals
    simp only [*, Bool.false_or, Bool.true_or, Bool.or_true, Bool.or_self] at hB
  -- no term begins here
  · have HT := Lib.hid (termF_nobeg (d := d) hB)
    clear hB HIC
    generalize hkd : (hd ts).kind = kd at *
    have HKD := Lib.hid hkd
    clear hkd
    go_wp2_with fail
    refine (fail_any HR2.out 1).mono ?_
    rintro e w5 ⟨rfl, hb5⟩
    refine ⟨rfl, ?_⟩
    unfold TPost
    rw [HT.out]
    exact ⟨rfl, grown_trans HG2.out (grown_of_below hb5 _)⟩
  -- a name
  · cases d with
    | zero =>
      have hB' : begT ts = true := hB
      have HT : Hid (termF 0 ts = failT ts 3) := by unfold Hid termF; rw [if_pos hB']
      have hl5 : lev = 5 := by omega
      subst hl5
      clear hB hB' HIC
      generalize hkd : (hd ts).kind = kd at *
      have HKD := Lib.hid hkd
      clear hkd
      go_wp2_with fail
      refine (fail_any HR2.out 3).mono ?_
      rintro e w5 ⟨rfl, hb5⟩
      refine ⟨rfl, ?_⟩
      unfold TPost
      rw [HT.out]
      exact ⟨rfl, grown_trans HG2.out (grown_of_below hb5 _)⟩
    | succ d' =>
      have hB' : begT ts = true := hB
      have HT : Hid (termF (d' + 1) ts = if (hd ts).kind == 1 then compF (termF d') ts else .ok (.mk (hd ts).text []) ts.tail) := by unfold Hid; rw [termF, if_pos hB']
      have hl4 : lev ≤ 4 := by omega
      have HL := Lib.hid (show lev + (d' : Int) = 4 by omega)
      have HNZ : Hid ((hd ts).kind ≠ 0) := begT_kind hB'
      have HK1 := Lib.hid k1
      rw [k1] at HT
      clear hB hB' hlev hd4
      have c1 := HR2.out.c1
      have f1 := HR2.out.f1
      generalize hkd : (hd ts).kind = kd at *
      have HKD := Lib.hid hkd
      clear hkd
      have HK2 : Hid ((hd ts).kind = 1) := by have := HKD.out; rw [← beq_iff_eq, this]; exact HK1.out
      go_wp2_with fail
      clear k1
      (with_reducible refine (HIC.out d' rfl w2 rb tb cap toks ts i HR2.out HK2.out lev HL.out).mono ?_)
      simp only [if_true] at HT
      cases hct : compF (termF d') ts with
      | err p e =>
        rw [hct] at HT
        clear hct
        rintro e' w3 ⟨rfl, hg⟩
        refine ⟨rfl, ?_⟩
        unfold TPost
        rw [HT.out]
        exact ⟨rfl, grown_trans HG2.out hg⟩
      | ok t rest =>
        rw [hct] at HT
        clear hct
        rintro e' w3 ⟨x, rfl, htm, hmv⟩
        obtain ⟨nm', A', cp', l', rfl, rfl⟩ := htm.form
        have hr3 := (hmv.2.block w.heap.size (heap_lt HRES.out) (by simp; omega)).trans HRES.out
        obtain ⟨cr0, cr1, fr0, fr1⟩ := cells_two hr3
        have HTM := Lib.hid htm
        have HMV := Lib.hid hmv
        have hlt2 : w.heap.size < w2.heap.size := heap_lt HRES.out
        clear htm hmv hr3 T0 T1
        go_wp2_with fail
        refine bodyPost_ret (v := .agg #[.string (bs nm'), .slice A' l'.length cp']) (by simp [results, Tryd.results106, go_sem, cr0, cr1]) rfl ?_
        unfold TPost
        rw [HT.out]
        have hg2 : w3.grownBy ((w3.setCell ⟨w.heap.size, 0, none⟩ (.string (bs nm'))).setCell ⟨w.heap.size, 1, none⟩ (.slice A' l'.length cp')) (some w.heap.size) := grown_trans (grown_set _ _ _ _) (grown_set _ _ _ _)
        exact ⟨[.string (bs nm'), .slice A' l'.length cp'], rfl, HTM.out.other hg2 hlt2 (by omega), Moved.other ⟨HMV.out.1, grown_trans HG2.out HMV.out.2⟩ hg2 (Nat.le_refl _) hrw htw⟩
  -- a variable or a number
  all_goals
    cases d with
    | zero =>
      have hB' : begT ts = true := hB
      have HT : Hid (termF 0 ts = failT ts 3) := by unfold Hid termF; rw [if_pos hB']
      have hl5 : lev = 5 := by omega
      subst hl5
      clear hB hB' HIC
      generalize hkd : (hd ts).kind = kd at *
      have HKD := Lib.hid hkd
      clear hkd
      go_wp2_with fail
      refine (fail_any HR2.out 3).mono ?_
      rintro e w5 ⟨rfl, hb5⟩
      refine ⟨rfl, ?_⟩
      unfold TPost
      rw [HT.out]
      exact ⟨rfl, grown_trans HG2.out (grown_of_below hb5 _)⟩
    | succ d' =>
      have hB' : begT ts = true := hB
      have HT : Hid (termF (d' + 1) ts = if (hd ts).kind == 1 then compF (termF d') ts else .ok (.mk (hd ts).text []) ts.tail) := by unfold Hid; rw [termF, if_pos hB']
      have hl4 : lev ≤ 4 := by omega
      have HL := Lib.hid (show lev + (d' : Int) = 4 by omega)
      have HNZ : Hid ((hd ts).kind ≠ 0) := begT_kind hB'
      have HK1 := Lib.hid k1
      rw [k1] at HT
      clear hB hB' hlev hd4
      have c1 := HR2.out.c1
      have f1 := HR2.out.f1
      generalize hkd : (hd ts).kind = kd at *
      have HKD := Lib.hid hkd
      clear hkd
      have hlv : ¬ (4 : Int) < lev := by omega
      have hr2 := HRES.out
      obtain ⟨cr0, cr1, fr0, fr1⟩ := cells_two hr2
      have hlt2 : w.heap.size < w2.heap.size := heap_lt hr2
      have c1 := HR2.out.c1
      have f1 := HR2.out.f1
      have hne : rb ≠ w.heap.size := by omega
      clear hr2
      go_wp2_with fail
      rw [show ((i : Int) + 1) = ((i + 1 : Nat) : Int) from by omega]
      refine bodyPost_ret (v := .agg #[.string (bs (hd ts).text), .slice none 0 0]) (by simp [results, Tryd.results106, go_sem, cr0, cr1, hne, Ne.symm hne]) rfl ?_
      simp only [if_false, Bool.false_eq_true] at HT
      unfold TPost
      rw [HT.out]
      have hs := HR2.out.step (by rw [HKD.out]; exact HNZ.out)
      have hg2 : (w2.setCell ⟨rb, 1, none⟩ (.int .i64 (i + 1 : Nat))).grownBy (((w2.setCell ⟨rb, 1, none⟩ (.int .i64 (i + 1 : Nat))).setCell ⟨w.heap.size, 0, none⟩ (.string (bs (hd ts).text))).setCell ⟨w.heap.size, 1, none⟩ (.slice none 0 0)) (some w.heap.size) := grown_trans (grown_set _ _ _ _) (grown_set _ _ _ _)
      exact ⟨[.string (bs (hd ts).text), .slice none 0 0], rfl, TmV.leaf _ _ _, Moved.other ⟨⟨_, hs.1⟩, grown_trans HG2.out hs.2⟩ hg2 (Nat.le_refl _) hrw htw⟩

theorem term_any : ∀ (d : Nat), d ≤ 4 → ∀ (w : World) (rb tb cap : Nat) (toks ts : List Tok) (i : Nat), Rd w rb tb cap toks ts i → ∀ lev : Int, lev + d = 5 →
    Calls Tryd.prog 106 #[.pointer (some ⟨rb, 0, none⟩), .int .i64 lev] w (TPost w rb tb cap toks (termF d ts)) := by
  intro d
  induction d with
  | zero => intro _ w rb tb cap toks ts i h lev hl; exact term_of 0 (by omega) (fun d' hd => by omega) w rb tb cap toks ts i h lev hl
  | succ d ih =>
    intro hd w rb tb cap toks ts i h lev hl
    refine term_of (d + 1) hd (fun d' hd' => ?_) w rb tb cap toks ts i h lev hl
    obtain rfl : d = d' := by omega
    exact compound_of d (by omega) (ih (by omega))
theorem compound_any (w : World) (rb tb cap : Nat) (toks ts : List Tok) (i : Nat) (h : Rd w rb tb cap toks ts i) (hk : (hd ts).kind = 1) :
    Calls Tryd.prog 89 #[.pointer (some ⟨rb, 0, none⟩), .int .i64 1] w (TPost w rb tb cap toks (compF (termF 3) ts)) :=
  compound_of 3 (by omega) (term_any 3 (by omega)) w rb tb cap toks ts i h hk 1 (by omega)

end
/- The walks of (*parser.reader).atom and .literal. -/
section
open Go Go.RowKit
set_option linter.unusedSimpArgs false

/-- what reading a value of some cells leaves -/
def RPost {α : Type} (R : Rdr α) (w : World) (rb tb cap : Nat) (toks : List Tok) (r : PR α) (e : Ending) (w' : World) : Prop :=
  match r with
  | .ok t rest => ∃ x : List Value, e = .returned (.agg x.toArray) ∧ R w' (fun b => w.heap.size ≤ b) x t ∧ Moved w rb tb cap toks rest w'
  | .err p k => e = Viol p k ∧ w.grownBy w' (some rb)

set_option maxHeartbeats 4000000 in
set_option maxRecDepth 100000 in
theorem atom_any (w : World) (rb tb cap : Nat) (toks ts : List Tok) (i : Nat) (h : Rd w rb tb cap toks ts i) :
    Calls Tryd.prog 65 #[.pointer (some ⟨rb, 0, none⟩)] w (TPost w rb tb cap toks (atomF ts)) := by
  have HR := Lib.hid h
  have hrw := h.rlt
  have htw := h.tk.1
  have f0 := fld0
  clear h
  go_enter Tryd.func65, Tryd.ntmps65
  go_wp2_with fail
  have HR1 := Lib.hid (HR.out.below (w' := w.alloc (.cells #[.string ⟨#[]⟩, .slice none 0 0] 24)) ((Below.refl _ _).alloc (Nat.le_refl _) _))
  refine (token_any HR1.out).mono ?_
  rintro e w1 ⟨rfl, hb1⟩
  have hsz : w.heap.size < w1.heap.size := by have := hb1.size; simp at this; omega
  have HRES := Lib.hid ((hb1.block _ (by simp)).trans (heap_alloc_new w (.cells #[.string ⟨#[]⟩, .slice none 0 0] 24)))
  have HR2 := Lib.hid (HR1.out.below hb1)
  have HG2 := Lib.hid (grown_trans (World.grownBy_alloc w (.cells #[.string ⟨#[]⟩, .slice none 0 0] 24) (some rb)) (grown_of_below hb1 (some rb)))
  clear hb1 HR1
  cases k1 : (hd ts).kind == 1 with
  | false =>
    have HT : Hid (atomF ts = failT ts 1) := by unfold Hid atomF; rw [k1]; rfl
    generalize hkd : (hd ts).kind = kd at *
    have HKD := Lib.hid hkd
    clear hkd
    go_wp2_with fail
    refine (fail_any HR2.out 1).mono ?_
    rintro e w5 ⟨rfl, hb5⟩
    refine ⟨rfl, ?_⟩
    unfold TPost
    rw [HT.out]
    exact ⟨rfl, grown_trans HG2.out (grown_of_below hb5 _)⟩
  | true =>
    have HT : Hid (atomF ts = compF (termF 3) ts) := by unfold Hid atomF; rw [k1]; rfl
    have HK2 : Hid ((hd ts).kind = 1) := by unfold Hid; exact beq_iff_eq.1 k1
    generalize hkd : (hd ts).kind = kd at *
    have HKD := Lib.hid hkd
    clear hkd
    go_wp2_with fail
    (with_reducible refine (compound_any w1 rb tb cap toks ts i HR2.out (by rw [HKD.out]; exact HK2.out)).mono ?_)
    cases hct : compF (termF 3) ts with
    | err p e =>
      rw [hct] at HT
      clear hct
      rintro e' w3 ⟨rfl, hg⟩
      refine ⟨rfl, ?_⟩
      unfold TPost
      rw [HT.out]
      exact ⟨rfl, grown_trans HG2.out hg⟩
    | ok t rest =>
      rw [hct] at HT
      clear hct
      rintro e' w3 ⟨x, rfl, htm, hmv⟩
      obtain ⟨nm', A', cp', l', rfl, rfl⟩ := htm.form
      have hr3 := (hmv.2.block w.heap.size (heap_lt HRES.out) (by simp; omega)).trans HRES.out
      obtain ⟨cr0, cr1, fr0, fr1⟩ := cells_two hr3
      have HTM := Lib.hid htm
      have HMV := Lib.hid hmv
      clear htm hmv hr3
      go_wp2_with fail
      refine bodyPost_ret (v := .agg #[.string (bs nm'), .slice A' l'.length cp']) (by simp [results, Tryd.results65, go_sem, cr0, cr1]) rfl ?_
      unfold TPost
      rw [HT.out]
      have hg2 : w3.grownBy ((w3.setCell ⟨w.heap.size, 0, none⟩ (.string (bs nm'))).setCell ⟨w.heap.size, 1, none⟩ (.slice A' l'.length cp')) (some w.heap.size) := grown_trans (grown_set _ _ _ _) (grown_set _ _ _ _)
      exact ⟨[.string (bs nm'), .slice A' l'.length cp'], rfl, HTM.out.other hg2 hsz (by omega), Moved.other ⟨HMV.out.1, grown_trans HG2.out HMV.out.2⟩ hg2 (Nat.le_refl _) hrw htw⟩

theorem infoLit : (Tryd.prog.info? 32).map (fun i => (i.zero, i.size, i.bytes)) = some (some (.agg #[.bool false, .string ⟨#[]⟩, .slice none 0 0]), 3, 48) := by kernel_rfl
theorem litF_full {o : Nat} {ts : List Tok} (h : (o == 8 && (isT ts [110, 111, 116] || (hd ts).kind == 1)) = true) : litF o ts = failT ts 2 := by
  unfold litF; rw [if_pos h]
theorem litF_go {o : Nat} {ts : List Tok} (h : (o == 8 && (isT ts [110, 111, 116] || (hd ts).kind == 1)) = false) :
    litF o ts = match atomF (if isT ts [110, 111, 116] then ts.tail else ts) with | .err p e => .err p e | .ok t r => .ok ⟨isT ts [110, 111, 116], t⟩ r := by
  unfold litF
  rw [if_neg (by rw [h]; exact Bool.false_ne_true)]
  cases isT ts [110, 111, 116] <;> rfl
theorem cells_three {w : World} {b : Nat} {x y z : Value} {t : TypeId} (h : w.heap[b]? = some (.cells #[x, y, z] t (0, 0))) :
    w.cell? ⟨b, 0, none⟩ = some x ∧ w.cell? ⟨b, 1, none⟩ = some y ∧ w.cell? ⟨b, 2, none⟩ = some z ∧ w.frozen? ⟨b, 0, none⟩ = false ∧ w.frozen? ⟨b, 1, none⟩ = false ∧ w.frozen? ⟨b, 2, none⟩ = false := by
  refine ⟨?_, ?_, ?_, ?_, ?_, ?_⟩
  · rw [cell_of_row w b 0 _ _ _ h]; rfl
  · rw [cell_of_row w b 1 _ _ _ h]; rfl
  · rw [cell_of_row w b 2 _ _ _ h]; rfl
  · simp [World.frozen?, h]
  · simp [World.frozen?, h]
  · simp [World.frozen?, h]

set_option maxHeartbeats 4000000 in
set_option maxRecDepth 100000 in
theorem lit_any (w : World) (rb tb cap : Nat) (toks ts : List Tok) (i : Nat) (h : Rd w rb tb cap toks ts i) (o : Nat) :
    Calls Tryd.prog 67 #[.pointer (some ⟨rb, 0, none⟩), .int .i64 o] w (RPost LiV w rb tb cap toks (litF o ts)) := by
  have HR := Lib.hid h
  have hrw := h.rlt
  have htw := h.tk.1
  have f0 := fld0
  clear h
  have HR1 := Lib.hid (HR.out.below (w' := w.alloc (.cells #[.bool false, .string ⟨#[]⟩, .slice none 0 0] 32)) ((Below.refl _ _).alloc (Nat.le_refl _) _))
  have HRES := Lib.hid (heap_alloc_new w (.cells #[.bool false, .string ⟨#[]⟩, .slice none 0 0] 32))
  have HG := Lib.hid (World.grownBy_alloc w (.cells #[.bool false, .string ⟨#[]⟩, .slice none 0 0] 32) (some rb))
  have h8i : ((o : Int) == 8) = (o == 8) := by
    cases hh : o == 8 with
    | true => rw [beq_iff_eq] at hh ⊢; omega
    | false => rw [beq_eq_false_iff_ne] at hh ⊢; omega
  go_enter Tryd.func67, Tryd.ntmps67
  cases h8 : (o == 8)
  all_goals rw [h8] at h8i
  focus
    have HT := Lib.hid (litF_go (o := o) (ts := ts) (by rw [h8]; rfl))
    go_wp2_with fail
    generalize w.alloc (.cells #[.bool false, .string ⟨#[]⟩, .slice none 0 0] 32) = w1 at *
  rotate_left
  focus
    go_wp2_with fail
    generalize w.alloc (.cells #[.bool false, .string ⟨#[]⟩, .slice none 0 0] 32) = w0 at *
    have HIS := Lib.hid (is_any HR1.out [110, 111, 116])
    cases hn : isT ts [110, 111, 116]
    rotate_left
    focus
      have HT := Lib.hid (litF_full (o := o) (ts := ts) (by rw [h8, hn]; rfl))
      rw [hn] at HIS
      refine HIS.out.mono ?_
      rintro e w2 ⟨rfl, hb2⟩
      have HR2 := Lib.hid (HR1.out.below hb2)
      have HG2 := Lib.hid (grown_trans HG.out (grown_of_below hb2 _))
      clear hb2
      go_wp2_with fail
      refine (fail_any HR2.out 2).mono ?_
      rintro e w5 ⟨rfl, hb5⟩
      refine ⟨rfl, ?_⟩
      unfold RPost
      rw [HT.out]
      exact ⟨rfl, grown_trans HG2.out (grown_of_below hb5 _)⟩
    focus
      rw [hn] at HIS
      refine HIS.out.mono ?_
      rintro e w2 ⟨rfl, hb2⟩
      have HR2 := Lib.hid (HR1.out.below hb2)
      have HG2 := Lib.hid (grown_trans HG.out (grown_of_below hb2 (some rb)))
      have hlt0 := heap_lt HRES.out
      have HRES2 := Lib.hid ((hb2.block _ hlt0).trans HRES.out)
      clear hb2 HRES HG HR1 HIS
      go_wp2_with fail
      refine (token_any HR2.out).mono ?_
      rintro e w1 ⟨rfl, hb1⟩
      have HR1 := Lib.hid (HR2.out.below hb1)
      have HG := Lib.hid (grown_trans HG2.out (grown_of_below hb1 (some rb)))
      have hlt0 := heap_lt HRES2.out
      have HRES := Lib.hid ((hb1.block _ hlt0).trans HRES2.out)
      clear hb1 HRES2 HG2 HR2 hlt0
      cases k1 : (hd ts).kind == 1
      rotate_left
      focus
        have HT := Lib.hid (litF_full (o := o) (ts := ts) (by rw [h8, k1]; simp))
        generalize hkd : (hd ts).kind = kd at *
        clear hkd
        go_wp2_with fail
        refine (fail_any HR1.out 2).mono ?_
        rintro e w5 ⟨rfl, hb5⟩
        refine ⟨rfl, ?_⟩
        unfold RPost
        rw [HT.out]
        exact ⟨rfl, grown_trans HG.out (grown_of_below hb5 _)⟩
      focus
        have HT := Lib.hid (litF_go (o := o) (ts := ts) (by rw [h8, k1, hn]; rfl))
        generalize hkd : (hd ts).kind = kd at *
        clear hkd hn
        go_wp2_with fail
  all_goals
    have HAC := Lib.hid (accept_any HR1.out [110, 111, 116])
    refine HAC.out.mono ?_
    rintro e w2 ⟨rfl, hm⟩
    clear HAC h8 h8i
    generalize isT ts [110, 111, 116] = b at *
    generalize hts : (if b then ts.tail else ts) = ts' at *
    clear hts
    obtain ⟨⟨i2, hr2⟩, hg2⟩ := hm
    have HR2 := Lib.hid hr2
    have HG2 := Lib.hid (grown_trans HG.out hg2)
    have HRES2 := Lib.hid ((hg2.block _ (heap_lt HRES.out) (by simp; omega)).trans HRES.out)
    have hsz := heap_lt HRES2.out
    clear hr2 hg2 HR1 HRES HG
    go_wp2_with fail
    (with_reducible refine (atom_any w2 rb tb cap toks ts' i2 HR2.out).mono ?_)
    cases hct : atomF ts' with
    | err p e =>
      rw [hct] at HT
      clear hct
      rintro e' w3 ⟨rfl, hg⟩
      refine ⟨rfl, ?_⟩
      unfold RPost
      rw [HT.out]
      exact ⟨rfl, grown_trans HG2.out hg⟩
    | ok t rest =>
      rw [hct] at HT
      clear hct
      rintro e' w3 ⟨x, rfl, htm, hmv⟩
      obtain ⟨nm', A', cp', l', rfl, rfl⟩ := htm.form
      have hr3 := (hmv.2.block w.heap.size hsz (by simp; omega)).trans HRES2.out
      obtain ⟨cr0, cr1, cr2, fr0, fr1, fr2⟩ := cells_three hr3
      have HTM := Lib.hid htm
      have HMV := Lib.hid hmv
      clear htm hmv hr3
      go_wp2_with fail
      refine bodyPost_ret (v := .agg #[.bool b, .string (bs nm'), .slice A' l'.length cp']) (by simp [results, Tryd.results67, go_sem, cr0, cr1, cr2]) rfl ?_
      unfold RPost
      rw [HT.out]
      have hg2 : w3.grownBy (((w3.setCell ⟨w.heap.size, 0, none⟩ (.bool b)).setCell ⟨w.heap.size, 1, none⟩ (.string (bs nm'))).setCell ⟨w.heap.size, 2, none⟩ (.slice A' l'.length cp')) (some w.heap.size) := grown_trans (grown_trans (grown_set _ _ _ _) (grown_set _ _ _ _)) (grown_set _ _ _ _)
      exact ⟨[.bool b, .string (bs nm'), .slice A' l'.length cp'], rfl, ⟨_, rfl, HTM.out.other hg2 hsz (by omega)⟩, Moved.other ⟨HMV.out.1, grown_trans HG2.out HMV.out.2⟩ hg2 (Nat.le_refl _) hrw htw⟩

end
end Go.Proofs.YthkbnjojkeeffaaDoor
