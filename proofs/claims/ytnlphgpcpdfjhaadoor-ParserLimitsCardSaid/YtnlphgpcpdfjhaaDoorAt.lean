/- The walks of (*parser.reader).atom and .literal. -/
import Derived.Test.YtnlphgpcpdfjhaaDoorTe
namespace Go.Proofs.YtnlphgpcpdfjhaaDoor
open Go Go.RowKit
set_option linter.unusedSimpArgs false

/-- what reading a value of some cells leaves -/
def RPost {α : Type} (R : Rdr α) (w : World) (rb tb cap : Nat) (toks : List Tok) (r : PR α) (e : Ending) (w' : World) : Prop :=
  match r with
  | .ok t rest => ∃ x : List Value, e = .returned (.agg x.toArray) ∧ R w' (fun b => w.heap.size ≤ b) x t ∧ Moved w rb tb cap toks rest w'
  | .err p k => e = Viol p k ∧ w.grownBy w' (some rb)

set_option maxHeartbeats 4000000 in
set_option maxRecDepth 100000 in
theorem atom_any (w : World) (rb tb cap : Nat) (toks ts : List Tok) (i : Nat) (h : Rd w rb tb cap toks ts i) :
    Calls Tryd.prog 53 #[.pointer (some ⟨rb, 0, none⟩)] w (TPost w rb tb cap toks (atomF ts)) := by
  have HR := Lib.hid h
  have hrw := h.rlt
  have htw := h.tk.1
  have f0 := fld0
  clear h
  go_enter Tryd.func53, Tryd.ntmps53
  go_wp2_with fail
  have HR1 := Lib.hid (HR.out.below (w' := w.alloc (.cells #[.string ⟨#[]⟩, .slice none 0 0] 31)) ((Below.refl _ _).alloc (Nat.le_refl _) _))
  refine (token_any HR1.out).mono ?_
  rintro e w1 ⟨rfl, hb1⟩
  have hsz : w.heap.size < w1.heap.size := by have := hb1.size; simp at this; omega
  have HRES := Lib.hid ((hb1.block _ (by simp)).trans (heap_alloc_new w (.cells #[.string ⟨#[]⟩, .slice none 0 0] 31)))
  have HR2 := Lib.hid (HR1.out.below hb1)
  have HG2 := Lib.hid (grown_trans (World.grownBy_alloc w (.cells #[.string ⟨#[]⟩, .slice none 0 0] 31) (some rb)) (grown_of_below hb1 (some rb)))
  clear hb1 HR1
  cases k1 : (hd ts).kind == 1 with
  | false =>
    have HT : Hid (atomF ts = failT ts 1) := by unfold Hid atomF; rw [k1]; rfl
    generalize hkd : (hd ts).kind = kd at *
    have HKD := Lib.hid hkd
    clear hkd
    go_wp2_with fail
    refine (fail_any HR2.out 1).mono ?_
    rintro e w5 ⟨rfl, hb5⟩
    refine ⟨rfl, ?_⟩
    unfold TPost
    rw [HT.out]
    exact ⟨rfl, grown_trans HG2.out (grown_of_below hb5 _)⟩
  | true =>
    have HT : Hid (atomF ts = compF (termF 3) ts) := by unfold Hid atomF; rw [k1]; rfl
    have HK2 : Hid ((hd ts).kind = 1) := by unfold Hid; exact beq_iff_eq.1 k1
    generalize hkd : (hd ts).kind = kd at *
    have HKD := Lib.hid hkd
    clear hkd
    go_wp2_with fail
    (with_reducible refine (compound_any w1 rb tb cap toks ts i HR2.out (by rw [HKD.out]; exact HK2.out)).mono ?_)
    cases hct : compF (termF 3) ts with
    | err p e =>
      rw [hct] at HT
      clear hct
      rintro e' w3 ⟨rfl, hg⟩
      refine ⟨rfl, ?_⟩
      unfold TPost
      rw [HT.out]
      exact ⟨rfl, grown_trans HG2.out hg⟩
    | ok t rest =>
      rw [hct] at HT
      clear hct
      rintro e' w3 ⟨x, rfl, htm, hmv⟩
      obtain ⟨nm', A', cp', l', rfl, rfl⟩ := htm.form
      have hr3 := (hmv.2.block w.heap.size (heap_lt HRES.out) (by simp; omega)).trans HRES.out
      obtain ⟨cr0, cr1, fr0, fr1⟩ := cells_two hr3
      have HTM := Lib.hid htm
      have HMV := Lib.hid hmv
      clear htm hmv hr3
      go_wp2_with fail
      refine bodyPost_ret (v := .agg #[.string (bs nm'), .slice A' l'.length cp']) (by simp [results, Tryd.results53, go_sem, cr0, cr1]) rfl ?_
      unfold TPost
      rw [HT.out]
      have hg2 : w3.grownBy ((w3.setCell ⟨w.heap.size, 0, none⟩ (.string (bs nm'))).setCell ⟨w.heap.size, 1, none⟩ (.slice A' l'.length cp')) (some w.heap.size) := grown_trans (grown_set _ _ _ _) (grown_set _ _ _ _)
      exact ⟨[.string (bs nm'), .slice A' l'.length cp'], rfl, HTM.out.other hg2 hsz (by omega), Moved.other ⟨HMV.out.1, grown_trans HG2.out HMV.out.2⟩ hg2 (Nat.le_refl _) hrw htw⟩

theorem infoLit : (Tryd.prog.info? 46).map (fun i => (i.zero, i.size, i.bytes)) = some (some (.agg #[.bool false, .string ⟨#[]⟩, .slice none 0 0]), 3, 48) := by kernel_rfl
theorem litF_full {o : Nat} {ts : List Tok} (h : (o == 8 && (isT ts [110, 111, 116] || (hd ts).kind == 1)) = true) : litF o ts = failT ts 2 := by
  unfold litF; rw [if_pos h]
theorem litF_go {o : Nat} {ts : List Tok} (h : (o == 8 && (isT ts [110, 111, 116] || (hd ts).kind == 1)) = false) :
    litF o ts = match atomF (if isT ts [110, 111, 116] then ts.tail else ts) with | .err p e => .err p e | .ok t r => .ok ⟨isT ts [110, 111, 116], t⟩ r := by
  unfold litF
  rw [if_neg (by rw [h]; exact Bool.false_ne_true)]
  cases isT ts [110, 111, 116] <;> rfl
theorem cells_three {w : World} {b : Nat} {x y z : Value} {t : TypeId} (h : w.heap[b]? = some (.cells #[x, y, z] t (0, 0))) :
    w.cell? ⟨b, 0, none⟩ = some x ∧ w.cell? ⟨b, 1, none⟩ = some y ∧ w.cell? ⟨b, 2, none⟩ = some z ∧ w.frozen? ⟨b, 0, none⟩ = false ∧ w.frozen? ⟨b, 1, none⟩ = false ∧ w.frozen? ⟨b, 2, none⟩ = false := by
  refine ⟨?_, ?_, ?_, ?_, ?_, ?_⟩
  · rw [cell_of_row w b 0 _ _ _ h]; rfl
  · rw [cell_of_row w b 1 _ _ _ h]; rfl
  · rw [cell_of_row w b 2 _ _ _ h]; rfl
  · simp [World.frozen?, h]
  · simp [World.frozen?, h]
  · simp [World.frozen?, h]

set_option maxHeartbeats 4000000 in
set_option maxRecDepth 100000 in
theorem lit_any (w : World) (rb tb cap : Nat) (toks ts : List Tok) (i : Nat) (h : Rd w rb tb cap toks ts i) (o : Nat) :
    Calls Tryd.prog 55 #[.pointer (some ⟨rb, 0, none⟩), .int .i64 o] w (RPost LiV w rb tb cap toks (litF o ts)) := by
  have HR := Lib.hid h
  have hrw := h.rlt
  have htw := h.tk.1
  have f0 := fld0
  clear h
  have HR1 := Lib.hid (HR.out.below (w' := w.alloc (.cells #[.bool false, .string ⟨#[]⟩, .slice none 0 0] 46)) ((Below.refl _ _).alloc (Nat.le_refl _) _))
  have HRES := Lib.hid (heap_alloc_new w (.cells #[.bool false, .string ⟨#[]⟩, .slice none 0 0] 46))
  have HG := Lib.hid (World.grownBy_alloc w (.cells #[.bool false, .string ⟨#[]⟩, .slice none 0 0] 46) (some rb))
  have h8i : ((o : Int) == 8) = (o == 8) := by
    cases hh : o == 8 with
    | true => rw [beq_iff_eq] at hh ⊢; omega
    | false => rw [beq_eq_false_iff_ne] at hh ⊢; omega
  go_enter Tryd.func55, Tryd.ntmps55
  cases h8 : (o == 8)
  all_goals rw [h8] at h8i
  focus
    have HT := Lib.hid (litF_go (o := o) (ts := ts) (by rw [h8]; rfl))
    go_wp2_with fail
    generalize w.alloc (.cells #[.bool false, .string ⟨#[]⟩, .slice none 0 0] 46) = w1 at *
  rotate_left
  focus
    go_wp2_with fail
    generalize w.alloc (.cells #[.bool false, .string ⟨#[]⟩, .slice none 0 0] 46) = w0 at *
    have HIS := Lib.hid (is_any HR1.out [110, 111, 116])
    cases hn : isT ts [110, 111, 116]
    rotate_left
    focus
      have HT := Lib.hid (litF_full (o := o) (ts := ts) (by rw [h8, hn]; rfl))
      rw [hn] at HIS
      refine HIS.out.mono ?_
      rintro e w2 ⟨rfl, hb2⟩
      have HR2 := Lib.hid (HR1.out.below hb2)
      have HG2 := Lib.hid (grown_trans HG.out (grown_of_below hb2 _))
      clear hb2
      go_wp2_with fail
      refine (fail_any HR2.out 2).mono ?_
      rintro e w5 ⟨rfl, hb5⟩
      refine ⟨rfl, ?_⟩
      unfold RPost
      rw [HT.out]
      exact ⟨rfl, grown_trans HG2.out (grown_of_below hb5 _)⟩
    focus
      rw [hn] at HIS
      refine HIS.out.mono ?_
      rintro e w2 ⟨rfl, hb2⟩
      have HR2 := Lib.hid (HR1.out.below hb2)
      have HG2 := Lib.hid (grown_trans HG.out (grown_of_below hb2 (some rb)))
      have hlt0 := heap_lt HRES.out
      have HRES2 := Lib.hid ((hb2.block _ hlt0).trans HRES.out)
      clear hb2 HRES HG HR1 HIS
      go_wp2_with fail
      refine (token_any HR2.out).mono ?_
      rintro e w1 ⟨rfl, hb1⟩
      have HR1 := Lib.hid (HR2.out.below hb1)
      have HG := Lib.hid (grown_trans HG2.out (grown_of_below hb1 (some rb)))
      have hlt0 := heap_lt HRES2.out
      have HRES := Lib.hid ((hb1.block _ hlt0).trans HRES2.out)
      clear hb1 HRES2 HG2 HR2 hlt0
      cases k1 : (hd ts).kind == 1
      rotate_left
      focus
        have HT := Lib.hid (litF_full (o := o) (ts := ts) (by rw [h8, k1]; simp))
        generalize hkd : (hd ts).kind = kd at *
        clear hkd
        go_wp2_with fail
        refine (fail_any HR1.out 2).mono ?_
        rintro e w5 ⟨rfl, hb5⟩
        refine ⟨rfl, ?_⟩
        unfold RPost
        rw [HT.out]
        exact ⟨rfl, grown_trans HG.out (grown_of_below hb5 _)⟩
      focus
        have HT := Lib.hid (litF_go (o := o) (ts := ts) (by rw [h8, k1, hn]; rfl))
        generalize hkd : (hd ts).kind = kd at *
        clear hkd hn
        go_wp2_with fail
  all_goals
    have HAC := Lib.hid (accept_any HR1.out [110, 111, 116])
    refine HAC.out.mono ?_
    rintro e w2 ⟨rfl, hm⟩
    clear HAC h8 h8i
    generalize isT ts [110, 111, 116] = b at *
    generalize hts : (if b then ts.tail else ts) = ts' at *
    clear hts
    obtain ⟨⟨i2, hr2⟩, hg2⟩ := hm
    have HR2 := Lib.hid hr2
    have HG2 := Lib.hid (grown_trans HG.out hg2)
    have HRES2 := Lib.hid ((hg2.block _ (heap_lt HRES.out) (by simp; omega)).trans HRES.out)
    have hsz := heap_lt HRES2.out
    clear hr2 hg2 HR1 HRES HG
    go_wp2_with fail
    (with_reducible refine (atom_any w2 rb tb cap toks ts' i2 HR2.out).mono ?_)
    cases hct : atomF ts' with
    | err p e =>
      rw [hct] at HT
      clear hct
      rintro e' w3 ⟨rfl, hg⟩
      refine ⟨rfl, ?_⟩
      unfold RPost
      rw [HT.out]
      exact ⟨rfl, grown_trans HG2.out hg⟩
    | ok t rest =>
      rw [hct] at HT
      clear hct
      rintro e' w3 ⟨x, rfl, htm, hmv⟩
      obtain ⟨nm', A', cp', l', rfl, rfl⟩ := htm.form
      have hr3 := (hmv.2.block w.heap.size hsz (by simp; omega)).trans HRES2.out
      obtain ⟨cr0, cr1, cr2, fr0, fr1, fr2⟩ := cells_three hr3
      have HTM := Lib.hid htm
      have HMV := Lib.hid hmv
      clear htm hmv hr3
      go_wp2_with fail
      refine bodyPost_ret (v := .agg #[.bool b, .string (bs nm'), .slice A' l'.length cp']) (by simp [results, Tryd.results55, go_sem, cr0, cr1, cr2]) rfl ?_
      unfold RPost
      rw [HT.out]
      have hg2 : w3.grownBy (((w3.setCell ⟨w.heap.size, 0, none⟩ (.bool b)).setCell ⟨w.heap.size, 1, none⟩ (.string (bs nm'))).setCell ⟨w.heap.size, 2, none⟩ (.slice A' l'.length cp')) (some w.heap.size) := grown_trans (grown_trans (grown_set _ _ _ _) (grown_set _ _ _ _)) (grown_set _ _ _ _)
      exact ⟨[.bool b, .string (bs nm'), .slice A' l'.length cp'], rfl, ⟨_, rfl, HTM.out.other hg2 hsz (by omega)⟩, Moved.other ⟨HMV.out.1, grown_trans HG2.out HMV.out.2⟩ hg2 (Nat.le_refl _) hrw htw⟩
end Go.Proofs.YtnlphgpcpdfjhaaDoor
