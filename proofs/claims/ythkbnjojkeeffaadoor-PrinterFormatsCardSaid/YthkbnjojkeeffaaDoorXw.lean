/- Merged texts: The walks of atom and literal of the reference's reader. The walk of literal of the reference's reader. -/
import Derived.Test.YthkbnjojkeeffaaDoorWv
namespace Go.Proofs.YthkbnjojkeeffaaDoor
/- The walks of atom and literal of the reference's reader. -/
section
open Go Go.RowKit
set_option linter.unusedSimpArgs false

set_option maxHeartbeats 4000000 in
set_option maxRecDepth 100000 in
theorem ratom_ok (w : World) (rb tb cap : Nat) (toks ts : List Tok) (i : Nat) (h : RR w rb tb cap toks ts i 0 0) :
    Calls Tryd.prog 78 #[.pointer (some ⟨rb, 0, none⟩)] w (RTPost w rb tb cap toks (atomF ts)) := by
  have HR := Lib.hid h
  have hrw := h.rlt
  have htw := h.tk.1
  have HR0 := Lib.hid (HR.out.below (w' := w.alloc (.cells #[.string ⟨#[]⟩, .slice none 0 0] 24)) ((Below.refl _ _).alloc (Nat.le_refl _) _))
  have HRES := Lib.hid (heap_alloc_new w (.cells #[.string ⟨#[]⟩, .slice none 0 0] 24))
  have HG := Lib.hid (World.grownBy_alloc w (.cells #[.string ⟨#[]⟩, .slice none 0 0] 24) (some rb))
  clear h
  go_enter Tryd.func78, Tryd.ntmps78
  go_wp2_with fail
  generalize w.alloc (.cells #[.string ⟨#[]⟩, .slice none 0 0] 24) = w0 at *
  have hi : (i : Int) < (toks.length : Int) := by have := HR0.out.lt; omega
  have hi0' : (0 : Int) ≤ (i : Int) := by omega
  obtain ⟨c0, c1, _, c3, _, _, _⟩ := HR0.out.facts
  obtain ⟨t0, _, _⟩ := HR0.out.tk.2 i _ HR0.out.hd
  have hsz := heap_lt HRES.out
  have HR1 := Lib.hid (HR0.out.below (w' := w0.drew) (Below.refl _ _).drew)
  have HG1 := Lib.hid (grown_trans HG.out (grown_of_below (Below.refl w0.heap.size w0).drew (some rb)))
  have HRES1 : Hid (w0.drew.heap[w.heap.size]? = _) := HRES.out
  cases k1 : (hd ts).kind == 1 with
  | false =>
    have HT : Hid (atomF ts = failT ts 1) := by unfold Hid atomF; rw [k1]; rfl
    generalize (hd ts).kind = kd at *
    go_region
    clear c0 c1 c3 t0 HR0 HG HRES
    generalize w0.drew = w1 at *
    go_wp2_with fail
    refine (rfail_ok HR1.out 1 (by decide)).mono ?_
    rintro e w2 ⟨rfl, he⟩
    have HE := Lib.hid (he.pre HG1.out)
    obtain ⟨v0, v1, g0, g1⟩ := cells_two ((he.2.2.block _ (heap_lt HRES1.out) (by simp; omega)).trans HRES1.out)
    clear he
    go_wp2_with fail
    refine bodyPost_ret (v := .agg #[.string ⟨#[]⟩, .slice none 0 0]) (by simp [results, Tryd.results78, go_sem, v0, v1]) rfl ?_
    unfold RTPost
    rw [HT.out]
    exact ⟨_, _, _, _, rfl, HE.out.other (grown_trans (grown_set _ _ _ _) (grown_set _ _ _ _)) (Nat.le_refl _) hrw htw⟩
  | true =>
    have HT : Hid (atomF ts = compF (termF 3) ts) := by unfold Hid atomF; rw [k1]; rfl
    have HK2 : Hid ((hd ts).kind = 1) := by unfold Hid; exact beq_iff_eq.1 k1
    generalize hkd : (hd ts).kind = kd at *
    have HKD := Lib.hid hkd
    clear hkd
    go_region
    clear c0 c1 c3 t0 HR0 HG HRES
    generalize w0.drew = w1 at *
    go_wp2_with fail
    have hsz1 := heap_lt HRES1.out
    (with_reducible refine (rrest_any w1 rb tb cap toks ts i HR1.out (by rw [HKD.out]; exact HK2.out)).mono ?_)
    cases hct : compF (termF 3) ts with
    | err p e =>
      rw [hct] at HT
      clear hct
      rintro e' w3 ⟨nm', A', n', cp', rfl, he⟩
      have HE := Lib.hid (he.pre HG1.out)
      obtain ⟨v0, v1, g0, g1⟩ := cells_two ((he.2.2.block _ hsz1 (by simp; omega)).trans HRES1.out)
      clear he
      go_wp2_with fail
      refine bodyPost_ret (v := .agg #[.string nm', .slice A' n' cp']) (by simp [results, Tryd.results78, go_sem, v0, v1]) rfl ?_
      unfold RTPost
      rw [HT.out]
      exact ⟨_, _, _, _, rfl, HE.out.other (grown_trans (grown_set _ _ _ _) (grown_set _ _ _ _)) (Nat.le_refl _) hrw htw⟩
    | ok t rest =>
      rw [hct] at HT
      clear hct
      rintro e' w3 ⟨x, rfl, htm, hmv⟩
      obtain ⟨nm', A', cp', l', rfl, rfl⟩ := htm.form
      obtain ⟨v0, v1, g0, g1⟩ := cells_two ((hmv.2.block w.heap.size hsz1 (by simp; omega)).trans HRES1.out)
      have HTM := Lib.hid htm
      have HMV := Lib.hid hmv
      clear htm hmv
      go_wp2_with fail
      refine bodyPost_ret (v := .agg #[.string (bs nm'), .slice A' l'.length cp']) (by simp [results, Tryd.results78, go_sem, v0, v1]) rfl ?_
      unfold RTPost
      rw [HT.out]
      have hg2 : w3.grownBy ((w3.setCell ⟨w.heap.size, 0, none⟩ (.string (bs nm'))).setCell ⟨w.heap.size, 1, none⟩ (.slice A' l'.length cp')) (some w.heap.size) := grown_trans (grown_set _ _ _ _) (grown_set _ _ _ _)
      exact ⟨[.string (bs nm'), .slice A' l'.length cp'], rfl, HTM.out.other hg2 hsz1 (by omega), RMoved.other ⟨HMV.out.1, grown_trans HG1.out HMV.out.2⟩ hg2 (Nat.le_refl _) hrw htw⟩

set_option maxHeartbeats 4000000 in
set_option maxRecDepth 100000 in
theorem ratom_no (w : World) (rb tb cap : Nat) (toks ts : List Tok) (i : Nat) (a k : Int) (h : RR w rb tb cap toks ts i a k) (hk : k ≠ 0) :
    Calls Tryd.prog 78 #[.pointer (some ⟨rb, 0, none⟩)] w fun e w' => e = .returned (.agg #[.string ⟨#[]⟩, .slice none 0 0]) ∧ Below w.heap.size w w' := by
  have HR := Lib.hid h
  have hb0 : Below w.heap.size w (w.alloc (.cells #[.string ⟨#[]⟩, .slice none 0 0] 24)) := (Below.refl _ _).alloc (Nat.le_refl _) _
  have HB0 := Lib.hid hb0
  have HR0 := Lib.hid (HR.out.below hb0)
  have HRES := Lib.hid (heap_alloc_new w (.cells #[.string ⟨#[]⟩, .slice none 0 0] 24))
  have hk0 : (k == 0) = false := beq_eq_false_iff_ne.2 hk
  have hk1 : (k != 0) = true := by rw [bne, hk0]; rfl
  have HK := Lib.hid hk
  clear h hk hb0
  go_enter Tryd.func78, Tryd.ntmps78
  go_wp2_with fail
  generalize w.alloc (.cells #[.string ⟨#[]⟩, .slice none 0 0] 24) = w0 at *
  obtain ⟨_, _, _, c3, _, _, _⟩ := HR0.out.facts
  have HR1 := Lib.hid (HR0.out.below (w' := w0.drew) (Below.refl _ _).drew)
  have HB1 := Lib.hid HB0.out.drew
  have HRES1 : Hid (w0.drew.heap[w.heap.size]? = _) := HRES.out
  go_region
  clear c3 HR0 HRES HB0
  generalize w0.drew = w1 at *
  go_wp2_with fail
  refine (rfail_no HR1.out HK.out 1).mono ?_
  rintro e w2 ⟨rfl, rfl⟩
  obtain ⟨v0, v1, g0, g1⟩ := cells_two HRES1.out
  go_wp2_with fail
  exact bodyPost_ret (v := .agg #[.string ⟨#[]⟩, .slice none 0 0]) (by simp [results, Tryd.results78, go_sem, v0, v1]) rfl ⟨rfl, below_set (below_set HB1.out _ _ _ (Nat.le_refl _)) _ _ _ (Nat.le_refl _)⟩


end
/- The walk of literal of the reference's reader. -/
section
open Go Go.RowKit
set_option linter.unusedSimpArgs false

/-- what reading a literal leaves -/
def RLPost (w : World) (rb tb cap : Nat) (toks : List Tok) (r : PR Li) (e : Ending) (w' : World) : Prop :=
  match r with
  | .ok t rest => ∃ x : List Value, e = .returned (.agg x.toArray) ∧ LiV w' (fun b => w.heap.size ≤ b) x t ∧ RMoved w rb tb cap toks rest w'
  | .err p k => ∃ (b : Bool) (nm : ByteArray) (A : Option Addr) (n cp : Nat), e = .returned (.agg #[.bool b, .string nm, .slice A n cp]) ∧ RErr w rb tb cap toks p k w'

set_option maxHeartbeats 4000000 in
set_option maxRecDepth 100000 in
theorem rlit_ok (w : World) (rb tb cap : Nat) (toks ts : List Tok) (i : Nat) (h : RR w rb tb cap toks ts i 0 0) :
    Calls Tryd.prog 80 #[.pointer (some ⟨rb, 0, none⟩)] w (RLPost w rb tb cap toks (litF 0 ts)) := by
  have hsm : (i : Int) < 20000 := by have := h.lt; have := h.big; omega
  have HR := Lib.hid h
  have hrw := h.rlt
  have htw := h.tk.1
  have HT := Lib.hid (litF_go (o := 0) (ts := ts) rfl)
  generalize litF 0 ts = q at HT ⊢
  have HR0 := Lib.hid (HR.out.below (w' := w.alloc (.cells #[.bool false, .string ⟨#[]⟩, .slice none 0 0] 32)) ((Below.refl _ _).alloc (Nat.le_refl _) _))
  have HRES := Lib.hid (heap_alloc_new w (.cells #[.bool false, .string ⟨#[]⟩, .slice none 0 0] 32))
  have HG := Lib.hid (World.grownBy_alloc w (.cells #[.bool false, .string ⟨#[]⟩, .slice none 0 0] 32) (some rb))
  clear h
  go_enter Tryd.func80, Tryd.ntmps80
  go_wp2_with fail
  generalize w.alloc (.cells #[.bool false, .string ⟨#[]⟩, .slice none 0 0] 32) = w0 at *
  have HIS := Lib.hid (ris_any HR0.out [110, 111, 116])
  cases hn : isT ts [110, 111, 116]
  all_goals
    rw [hn] at HIS HT
    simp only [if_true, if_false, Bool.false_eq_true] at HT
    refine HIS.out.mono ?_
    rintro e w1 ⟨rfl, hb1⟩
    have HR1 := Lib.hid (HR0.out.below hb1)
    have HG1 := Lib.hid (grown_trans HG.out (grown_of_below hb1 (some rb)))
    have HRES1 := Lib.hid ((hb1.block _ (heap_lt HRES.out)).trans HRES.out)
    clear hb1 HIS HR0 HG HRES
  focus
    go_wp2_with fail
    have HRX := Lib.hid HR1.out
    have HGX := Lib.hid HG1.out
    have HRESX := Lib.hid HRES1.out
    generalize w1 = wx at *
    generalize hts : ts = ts' at HT HRX
    generalize hbb : false = bb at HT
    have HBB := Lib.hid hbb
    clear hbb
    generalize hix : i = ix at HRX
  rotate_left
  focus
    have HKN := Lib.hid (isT_kind hn)
    obtain ⟨_, c1, _, _, f1, _, _⟩ := HR1.out.facts
    go_wp2_with fail
    rw [show ((i : Int) + 1) = ((i + 1 : Nat) : Int) from by omega]
    have HRX := Lib.hid (HR1.out.step HKN.out)
    have HGX := Lib.hid (grown_trans HG1.out (grown_set w1 rb 1 (.int .i64 (i + 1 : Nat))))
    have HRESX := Lib.hid ((Below.heap_setCell w1 ⟨rb, 1, none⟩ (.int .i64 (i + 1 : Nat)) w.heap.size (by simp; omega)).trans HRES1.out)
    clear c1 f1
    generalize w1.setCell ⟨rb, 1, none⟩ (.int .i64 (i + 1 : Nat)) = wx at *
    generalize hts : ts.tail = ts' at HT HRX
    generalize hbb : true = bb at HT
    have HBB := Lib.hid hbb
    clear hbb
    generalize hix : i + 1 = ix at HRX
  all_goals
    clear HR1 HG1 HRES1 hts hix
    have hsz := heap_lt HRESX.out
    (with_reducible refine (ratom_ok wx rb tb cap toks ts' ix HRX.out).mono ?_)
    cases hct : atomF ts' with
    | err p e =>
      rw [hct] at HT
      clear hct
      rintro e' w3 ⟨nm', A', n', cp', rfl, he⟩
      have HE := Lib.hid (he.pre HGX.out)
      obtain ⟨v0, v1, v2, g0, g1, g2⟩ := cells_three ((he.2.2.block _ hsz (by simp; omega)).trans HRESX.out)
      clear he
      go_wp2_with fail
      refine bodyPost_ret (v := .agg #[.bool bb, .string nm', .slice A' n' cp']) (by simp [results, Tryd.results80, go_sem, v0, v1, v2, ← HBB.out]) rfl ?_
      unfold RLPost
      rw [HT.out]
      exact ⟨_, _, _, _, _, rfl, HE.out.other (grown_trans (grown_trans (grown_set _ _ _ _) (grown_set _ _ _ _)) (grown_set _ _ _ _)) (Nat.le_refl _) hrw htw⟩
    | ok t rest =>
      rw [hct] at HT
      clear hct
      rintro e' w3 ⟨x, rfl, htm, hmv⟩
      obtain ⟨nm', A', cp', l', rfl, rfl⟩ := htm.form
      obtain ⟨v0, v1, v2, g0, g1, g2⟩ := cells_three ((hmv.2.block w.heap.size hsz (by simp; omega)).trans HRESX.out)
      have HTM := Lib.hid htm
      have HMV := Lib.hid hmv
      clear htm hmv
      go_wp2_with fail
      refine bodyPost_ret (v := .agg #[.bool bb, .string (bs nm'), .slice A' l'.length cp']) (by simp [results, Tryd.results80, go_sem, v0, v1, v2, ← HBB.out]) rfl ?_
      unfold RLPost
      rw [HT.out]
      have hg2 : ∀ u, w3.grownBy (((w3.setCell ⟨w.heap.size, 0, none⟩ (.bool u)).setCell ⟨w.heap.size, 1, none⟩ (.string (bs nm'))).setCell ⟨w.heap.size, 2, none⟩ (.slice A' l'.length cp')) (some w.heap.size) := fun u => grown_trans (grown_trans (grown_set _ _ _ _) (grown_set _ _ _ _)) (grown_set _ _ _ _)
      exact ⟨[.bool bb, .string (bs nm'), .slice A' l'.length cp'], rfl, ⟨_, rfl, HTM.out.other (hg2 _) hsz (by omega)⟩, RMoved.other ⟨HMV.out.1, grown_trans HGX.out HMV.out.2⟩ (hg2 _) (Nat.le_refl _) hrw htw⟩

end
end Go.Proofs.YthkbnjojkeeffaaDoor
