/- The walk of (*parser.reader).term. -/
import Derived.Test.YtnlphgpcpdfjhaaDoorTc
namespace Go.Proofs.YtnlphgpcpdfjhaaDoor
open Go Go.RowKit
set_option linter.unusedSimpArgs false

theorem grown_set (w : World) (r o : Nat) (u : Value) : w.grownBy (w.setCell ⟨r, o, none⟩ u) (some r) :=
  ⟨rfl, rfl, rfl, by simp, fun k _ hk => Below.heap_setCell _ _ _ _ (fun e => hk (by rw [e]))⟩
/-- a block of the call's own is written -/
theorem Moved.other {w w4 w5 : World} {rb tb cap : Nat} {toks ts : List Tok} {r4 : Nat} (h : Moved w rb tb cap toks ts w4) (hg : w4.grownBy w5 (some r4)) (hr : w.heap.size ≤ r4) (hrb : rb < w.heap.size) (htb : tb < w.heap.size) : Moved w rb tb cap toks ts w5 := by
  obtain ⟨⟨i, hi⟩, hm⟩ := h
  have hs := hm.size
  have hne : ∀ k, k < w4.heap.size → k ≠ r4 → w5.heap[k]? = w4.heap[k]? := fun k hk hn => hg.block k hk (fun e => hn (by injection e))
  refine ⟨⟨i, hi.lt, hi.ts_, (hne rb (by omega) (by omega)).trans hi.blk, hi.tk.keep (hne tb (by omega) (by omega)) hg.size, hi.ne, hi.big, hi.fin⟩, ⟨hg.os.trans hm.os, hg.tape.trans hm.tape, hg.output.trans hm.output, Nat.le_trans hs hg.size, fun k hk hn => (hne k (by omega) (by omega)).trans (hm.block k hk hn)⟩⟩
theorem TmV.other {w4 w5 : World} {B B' : Nat} {x : List Value} {t : Tm} {r4 : Nat} (h : TmV w4 (fun b => B ≤ b) x t) (hg : w4.grownBy w5 (some r4)) (hr : r4 < B) (hB : B' ≤ B) : TmV w5 (fun b => B' ≤ b) x t :=
  h.keep (fun b hb hlt => ⟨by omega, hg.block b hlt (fun e => by injection e; omega)⟩) hg.size
theorem TmV.leaf (w : World) (P : Nat → Prop) (nm : List UInt8) : TmV w P [.string (bs nm), .slice none 0 0] (.mk nm []) :=
  TmV.mk nm none 0 [] [] rfl (fun h => absurd h (Nat.not_lt_zero _)) (fun _ _ _ h => by simp at h)

theorem cells_two {w : World} {b : Nat} {x y : Value} {t : TypeId} (h : w.heap[b]? = some (.cells #[x, y] t (0, 0))) :
    w.cell? ⟨b, 0, none⟩ = some x ∧ w.cell? ⟨b, 1, none⟩ = some y ∧ w.frozen? ⟨b, 0, none⟩ = false ∧ w.frozen? ⟨b, 1, none⟩ = false := by
  refine ⟨?_, ?_, ?_, ?_⟩
  · rw [cell_of_row w b 0 _ _ _ h]; rfl
  · rw [cell_of_row w b 1 _ _ _ h]; rfl
  · simp [World.frozen?, h]
  · simp [World.frozen?, h]

set_option maxHeartbeats 4000000 in
set_option maxRecDepth 100000 in
theorem term_of (d : Nat) (hd4 : d ≤ 4) (IC : ∀ d', d = d' + 1 → ∀ (w : World) (rb tb cap : Nat) (toks ts : List Tok) (i : Nat), Rd w rb tb cap toks ts i → (hd ts).kind = 1 → ∀ lev : Int, lev + d' = 4 →
      Calls Tryd.prog 58 #[.pointer (some ⟨rb, 0, none⟩), .int .i64 lev] w (TPost w rb tb cap toks (compF (termF d') ts)))
    (w : World) (rb tb cap : Nat) (toks ts : List Tok) (i : Nat) (h : Rd w rb tb cap toks ts i) (lev : Int) (hlev : lev + d = 5) :
    Calls Tryd.prog 37 #[.pointer (some ⟨rb, 0, none⟩), .int .i64 lev] w (TPost w rb tb cap toks (termF d ts)) := by
  have HR := Lib.hid h
  have hrw := h.rlt
  have htw := h.tk.1
  have hsm : (i : Int) < 20000 := by have := h.lt; have := h.big; omega
  clear h
  have HIC := Lib.hid IC
  clear IC
  go_enter Tryd.func37, Tryd.ntmps37
  go_wp2_with fail
  have HR1 := Lib.hid (HR.out.below (w' := w.alloc (.cells #[.string ⟨#[]⟩, .slice none 0 0] 31)) ((Below.refl _ _).alloc (Nat.le_refl _) _))
  refine (token_any HR1.out).mono ?_
  rintro e w1 ⟨rfl, hb1⟩
  have hsz : w.heap.size < w1.heap.size := by have := hb1.size; simp at this; omega
  have hres : w1.heap[w.heap.size]? = some (.cells #[.string ⟨#[]⟩, .slice none 0 0] 31 (0, 0)) := (hb1.block _ (by simp)).trans (heap_alloc_new w _)
  have HB1 := Lib.hid (hb1.trans (((Below.refl w1.heap.size w1).alloc (Nat.le_refl _) (.cells #[.int .i64 (hd ts).kind, .string (bs (hd ts).text), .int .i64 (hd ts).pos] 61)).mono hb1.size))
  have HR2 := Lib.hid (HR1.out.below HB1.out)
  have HG2 := Lib.hid (grown_trans (World.grownBy_alloc w (.cells #[.string ⟨#[]⟩, .slice none 0 0] 31) (some rb)) (grown_of_below HB1.out (some rb)))
  have hres2 : (w1.alloc (.cells #[.int .i64 (hd ts).kind, .string (bs (hd ts).text), .int .i64 (hd ts).pos] 61)).heap[w.heap.size]? = some (.cells #[.string ⟨#[]⟩, .slice none 0 0] 31 (0, 0)) := (Below.heap_alloc _ _ _ hsz).trans hres
  have HRES := Lib.hid hres2
  clear hb1 hres hres2 HR1 HB1
  have hB : begT ts = ((hd ts).kind == 1 || (hd ts).kind == 2 || (hd ts).kind == 3) := rfl
  simp only []
  iterate 12 (first | go_skip | go_guarded | go_step | go_upon | go_back)
  have T0 : (w1.alloc (.cells #[.int .i64 (hd ts).kind, .string (bs (hd ts).text), .int .i64 (hd ts).pos] 61)).cell? ⟨w1.heap.size, 0, none⟩ = some (.int .i64 (hd ts).kind) := by
    rw [cell_of_row _ _ 0 _ _ _ (heap_alloc_new w1 _)]; rfl
  have T1 : (w1.alloc (.cells #[.int .i64 (hd ts).kind, .string (bs (hd ts).text), .int .i64 (hd ts).pos] 61)).cell? ⟨w1.heap.size, 1, none⟩ = some (.string (bs (hd ts).text)) := by
    rw [cell_of_row _ _ 1 _ _ _ (heap_alloc_new w1 _)]; rfl
  generalize w1.alloc (.cells #[.int .i64 (hd ts).kind, .string (bs (hd ts).text), .int .i64 (hd ts).pos] 61) = w2 at *
  have hbt : rb ≠ w1.heap.size := by omega
  generalize w1.heap.size = bt at *
  have hd : (((hd ts).kind == 1) = false ∧ ((hd ts).kind == 2) = false ∧ ((hd ts).kind == 3) = false) ∨ ((hd ts).kind == 1) = true ∨ (((hd ts).kind == 1) = false ∧ ((hd ts).kind == 2) = true) ∨ (((hd ts).kind == 1) = false ∧ ((hd ts).kind == 2) = false ∧ ((hd ts).kind == 3) = true) := by
    cases (hd ts).kind == 1 <;> cases (hd ts).kind == 2 <;> cases (hd ts).kind == 3 <;> simp
  obtain ⟨k1, k2, k3⟩ | k1 | ⟨k1, k2⟩ | ⟨k1, k2, k3⟩ := hd
  all_goals
    simp only [*, Bool.false_or, Bool.true_or, Bool.or_true, Bool.or_self] at hB
  -- no term begins here
  · have HT := Lib.hid (termF_nobeg (d := d) hB)
    clear hB HIC
    generalize hkd : (hd ts).kind = kd at *
    have HKD := Lib.hid hkd
    clear hkd
    go_wp2_with fail
    refine (fail_any HR2.out 1).mono ?_
    rintro e w5 ⟨rfl, hb5⟩
    refine ⟨rfl, ?_⟩
    unfold TPost
    rw [HT.out]
    exact ⟨rfl, grown_trans HG2.out (grown_of_below hb5 _)⟩
  -- a name
  · cases d with
    | zero =>
      have hB' : begT ts = true := hB
      have HT : Hid (termF 0 ts = failT ts 3) := by unfold Hid termF; rw [if_pos hB']
      have hl5 : lev = 5 := by omega
      subst hl5
      clear hB hB' HIC
      generalize hkd : (hd ts).kind = kd at *
      have HKD := Lib.hid hkd
      clear hkd
      go_wp2_with fail
      refine (fail_any HR2.out 3).mono ?_
      rintro e w5 ⟨rfl, hb5⟩
      refine ⟨rfl, ?_⟩
      unfold TPost
      rw [HT.out]
      exact ⟨rfl, grown_trans HG2.out (grown_of_below hb5 _)⟩
    | succ d' =>
      have hB' : begT ts = true := hB
      have HT : Hid (termF (d' + 1) ts = if (hd ts).kind == 1 then compF (termF d') ts else .ok (.mk (hd ts).text []) ts.tail) := by unfold Hid; rw [termF, if_pos hB']
      have hl4 : lev ≤ 4 := by omega
      have HL := Lib.hid (show lev + (d' : Int) = 4 by omega)
      have HNZ : Hid ((hd ts).kind ≠ 0) := begT_kind hB'
      have HK1 := Lib.hid k1
      rw [k1] at HT
      clear hB hB' hlev hd4
      have c1 := HR2.out.c1
      have f1 := HR2.out.f1
      generalize hkd : (hd ts).kind = kd at *
      have HKD := Lib.hid hkd
      clear hkd
      have HK2 : Hid ((hd ts).kind = 1) := by have := HKD.out; rw [← beq_iff_eq, this]; exact HK1.out
      go_wp2_with fail
      clear k1
      (with_reducible refine (HIC.out d' rfl w2 rb tb cap toks ts i HR2.out HK2.out lev HL.out).mono ?_)
      simp only [if_true] at HT
      cases hct : compF (termF d') ts with
      | err p e =>
        rw [hct] at HT
        clear hct
        rintro e' w3 ⟨rfl, hg⟩
        refine ⟨rfl, ?_⟩
        unfold TPost
        rw [HT.out]
        exact ⟨rfl, grown_trans HG2.out hg⟩
      | ok t rest =>
        rw [hct] at HT
        clear hct
        rintro e' w3 ⟨x, rfl, htm, hmv⟩
        obtain ⟨nm', A', cp', l', rfl, rfl⟩ := htm.form
        have hr3 := (hmv.2.block w.heap.size (heap_lt HRES.out) (by simp; omega)).trans HRES.out
        obtain ⟨cr0, cr1, fr0, fr1⟩ := cells_two hr3
        have HTM := Lib.hid htm
        have HMV := Lib.hid hmv
        have hlt2 : w.heap.size < w2.heap.size := heap_lt HRES.out
        clear htm hmv hr3 T0 T1
        go_wp2_with fail
        refine bodyPost_ret (v := .agg #[.string (bs nm'), .slice A' l'.length cp']) (by simp [results, Tryd.results37, go_sem, cr0, cr1]) rfl ?_
        unfold TPost
        rw [HT.out]
        have hg2 : w3.grownBy ((w3.setCell ⟨w.heap.size, 0, none⟩ (.string (bs nm'))).setCell ⟨w.heap.size, 1, none⟩ (.slice A' l'.length cp')) (some w.heap.size) := grown_trans (grown_set _ _ _ _) (grown_set _ _ _ _)
        exact ⟨[.string (bs nm'), .slice A' l'.length cp'], rfl, HTM.out.other hg2 hlt2 (by omega), Moved.other ⟨HMV.out.1, grown_trans HG2.out HMV.out.2⟩ hg2 (Nat.le_refl _) hrw htw⟩
  -- a variable or a number
  all_goals
    cases d with
    | zero =>
      have hB' : begT ts = true := hB
      have HT : Hid (termF 0 ts = failT ts 3) := by unfold Hid termF; rw [if_pos hB']
      have hl5 : lev = 5 := by omega
      subst hl5
      clear hB hB' HIC
      generalize hkd : (hd ts).kind = kd at *
      have HKD := Lib.hid hkd
      clear hkd
      go_wp2_with fail
      refine (fail_any HR2.out 3).mono ?_
      rintro e w5 ⟨rfl, hb5⟩
      refine ⟨rfl, ?_⟩
      unfold TPost
      rw [HT.out]
      exact ⟨rfl, grown_trans HG2.out (grown_of_below hb5 _)⟩
    | succ d' =>
      have hB' : begT ts = true := hB
      have HT : Hid (termF (d' + 1) ts = if (hd ts).kind == 1 then compF (termF d') ts else .ok (.mk (hd ts).text []) ts.tail) := by unfold Hid; rw [termF, if_pos hB']
      have hl4 : lev ≤ 4 := by omega
      have HL := Lib.hid (show lev + (d' : Int) = 4 by omega)
      have HNZ : Hid ((hd ts).kind ≠ 0) := begT_kind hB'
      have HK1 := Lib.hid k1
      rw [k1] at HT
      clear hB hB' hlev hd4
      have c1 := HR2.out.c1
      have f1 := HR2.out.f1
      generalize hkd : (hd ts).kind = kd at *
      have HKD := Lib.hid hkd
      clear hkd
      have hlv : ¬ (4 : Int) < lev := by omega
      have hr2 := HRES.out
      obtain ⟨cr0, cr1, fr0, fr1⟩ := cells_two hr2
      have hlt2 : w.heap.size < w2.heap.size := heap_lt hr2
      have c1 := HR2.out.c1
      have f1 := HR2.out.f1
      have hne : rb ≠ w.heap.size := by omega
      clear hr2
      go_wp2_with fail
      rw [show ((i : Int) + 1) = ((i + 1 : Nat) : Int) from by omega]
      refine bodyPost_ret (v := .agg #[.string (bs (hd ts).text), .slice none 0 0]) (by simp [results, Tryd.results37, go_sem, cr0, cr1, hne, Ne.symm hne]) rfl ?_
      simp only [if_false, Bool.false_eq_true] at HT
      unfold TPost
      rw [HT.out]
      have hs := HR2.out.step (by rw [HKD.out]; exact HNZ.out)
      have hg2 : (w2.setCell ⟨rb, 1, none⟩ (.int .i64 (i + 1 : Nat))).grownBy (((w2.setCell ⟨rb, 1, none⟩ (.int .i64 (i + 1 : Nat))).setCell ⟨w.heap.size, 0, none⟩ (.string (bs (hd ts).text))).setCell ⟨w.heap.size, 1, none⟩ (.slice none 0 0)) (some w.heap.size) := grown_trans (grown_set _ _ _ _) (grown_set _ _ _ _)
      exact ⟨[.string (bs (hd ts).text), .slice none 0 0], rfl, TmV.leaf _ _ _, Moved.other ⟨⟨_, hs.1⟩, grown_trans HG2.out hs.2⟩ hg2 (Nat.le_refl _) hrw htw⟩

theorem term_any : ∀ (d : Nat), d ≤ 4 → ∀ (w : World) (rb tb cap : Nat) (toks ts : List Tok) (i : Nat), Rd w rb tb cap toks ts i → ∀ lev : Int, lev + d = 5 →
    Calls Tryd.prog 37 #[.pointer (some ⟨rb, 0, none⟩), .int .i64 lev] w (TPost w rb tb cap toks (termF d ts)) := by
  intro d
  induction d with
  | zero => intro _ w rb tb cap toks ts i h lev hl; exact term_of 0 (by omega) (fun d' hd => by omega) w rb tb cap toks ts i h lev hl
  | succ d ih =>
    intro hd w rb tb cap toks ts i h lev hl
    refine term_of (d + 1) hd (fun d' hd' => ?_) w rb tb cap toks ts i h lev hl
    obtain rfl : d = d' := by omega
    exact compound_of d (by omega) (ih (by omega))
theorem compound_any (w : World) (rb tb cap : Nat) (toks ts : List Tok) (i : Nat) (h : Rd w rb tb cap toks ts i) (hk : (hd ts).kind = 1) :
    Calls Tryd.prog 58 #[.pointer (some ⟨rb, 0, none⟩), .int .i64 1] w (TPost w rb tb cap toks (compF (termF 3) ts)) :=
  compound_of 3 (by omega) (term_any 3 (by omega)) w rb tb cap toks ts i h hk 1 (by omega)
end Go.Proofs.YtnlphgpcpdfjhaaDoor
