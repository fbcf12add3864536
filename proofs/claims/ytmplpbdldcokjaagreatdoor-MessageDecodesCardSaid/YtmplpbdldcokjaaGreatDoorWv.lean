/- The walk of term of the reference's reader. -/
import Derived.Test.YtmplpbdldcokjaaGreatDoorWu
namespace Go.Proofs.YtmplpbdldcokjaaGreatDoor
open Go Go.RowKit
set_option linter.unusedSimpArgs false

theorem RMoved.other {w w4 w5 : World} {rb tb cap : Nat} {toks ts : List Tok} {r4 : Nat} (h : RMoved w rb tb cap toks ts w4) (hg : w4.grownBy w5 (some r4)) (hr : w.heap.size ≤ r4) (hrb : rb < w.heap.size) (htb : tb < w.heap.size) : RMoved w rb tb cap toks ts w5 := by
  obtain ⟨⟨i, hi⟩, hm⟩ := h
  have hs := hm.size
  exact ⟨⟨i, hi.other hg (by omega) (by omega)⟩, ⟨hg.os.trans hm.os, hg.tape.trans hm.tape, hg.output.trans hm.output, Nat.le_trans hs hg.size, fun k hk hn => (hg.block k (by omega) (fun e => by injection e; omega)).trans (hm.block k hk hn)⟩⟩
theorem RErr.other {w w4 w5 : World} {rb tb cap : Nat} {toks : List Tok} {p : Nat} {x : Int} {r4 : Nat} (h : RErr w rb tb cap toks p x w4) (hg : w4.grownBy w5 (some r4)) (hr : w.heap.size ≤ r4) (hrb : rb < w.heap.size) (htb : tb < w.heap.size) : RErr w rb tb cap toks p x w5 := by
  obtain ⟨⟨ts, i, hi⟩, hx, hm⟩ := h
  have hs := hm.size
  exact ⟨⟨ts, i, hi.other hg (by omega) (by omega)⟩, hx, ⟨hg.os.trans hm.os, hg.tape.trans hm.tape, hg.output.trans hm.output, Nat.le_trans hs hg.size, fun k hk hn => (hg.block k (by omega) (fun e => by injection e; omega)).trans (hm.block k hk hn)⟩⟩

set_option maxHeartbeats 4000000 in
set_option maxRecDepth 100000 in
theorem rterm_of (d : Nat) (hd4 : d ≤ 4) (IC : ∀ d', d = d' + 1 → ∀ (w : World) (rb tb cap : Nat) (toks ts : List Tok) (i : Nat), RR w rb tb cap toks ts i 0 0 → (hd ts).kind ≠ 0 → ∀ lev : Int, lev + d' = 4 →
      Calls Tryz.prog 154 #[.pointer (some ⟨rb, 0, none⟩), .int .i64 lev] w (RTPost w rb tb cap toks (restF d' ts)))
    (w : World) (rb tb cap : Nat) (toks ts : List Tok) (i : Nat) (h : RR w rb tb cap toks ts i 0 0) (lev : Int) (hlev : lev + d = 5) :
    Calls Tryz.prog 140 #[.pointer (some ⟨rb, 0, none⟩), .int .i64 lev] w (RTPost w rb tb cap toks (termF d ts)) := by
  have HR := Lib.hid h
  have hrw := h.rlt
  have htw := h.tk.1
  have HIC := Lib.hid IC
  have HR0 := Lib.hid (HR.out.below (w' := w.alloc (.cells #[.string ⟨#[]⟩, .slice none 0 0] 25)) ((Below.refl _ _).alloc (Nat.le_refl _) _))
  have HRES := Lib.hid (heap_alloc_new w (.cells #[.string ⟨#[]⟩, .slice none 0 0] 25))
  have HG := Lib.hid (World.grownBy_alloc w (.cells #[.string ⟨#[]⟩, .slice none 0 0] 25) (some rb))
  clear h IC
  go_enter Tryz.func140, Tryz.ntmps140
  go_wp2_with fail
  generalize w.alloc (.cells #[.string ⟨#[]⟩, .slice none 0 0] 25) = w0 at *
  refine (rbegins_any HR0.out).mono ?_
  rintro e w1 ⟨rfl, hb1⟩
  have HR1 := Lib.hid (HR0.out.below hb1)
  have HG1 := Lib.hid (grown_trans HG.out (grown_of_below hb1 (some rb)))
  have HRES1 := Lib.hid ((hb1.block _ (heap_lt HRES.out)).trans HRES.out)
  have hsz := heap_lt HRES1.out
  clear hb1 HR0 HG HRES
  cases hb : begT ts with
  | false =>
    have HT := Lib.hid (termF_nobeg (d := d) hb)
    go_wp2_with fail
    refine (rfail_ok HR1.out 1 (by decide)).mono ?_
    rintro e w2 ⟨rfl, he⟩
    have HE := Lib.hid (he.pre HG1.out)
    obtain ⟨v0, v1, g0, g1⟩ := cells_two ((he.2.2.block _ hsz (by simp; omega)).trans HRES1.out)
    clear he
    go_wp2_with fail
    refine bodyPost_ret (v := .agg #[.string ⟨#[]⟩, .slice none 0 0]) (by simp [results, Tryz.results140, go_sem, v0, v1]) rfl ?_
    unfold RTPost
    rw [HT.out]
    exact ⟨_, _, _, _, rfl, HE.out.other (grown_trans (grown_set _ _ _ _) (grown_set _ _ _ _)) (Nat.le_refl _) hrw htw⟩
  | true =>
    cases d with
    | zero =>
      have HT : Hid (termF 0 ts = failT ts 3) := by unfold Hid termF; rw [if_pos hb]
      have hl5 : lev = 5 := by omega
      subst hl5
      go_wp2_with fail
      refine (rfail_ok HR1.out 3 (by decide)).mono ?_
      rintro e w2 ⟨rfl, he⟩
      have HE := Lib.hid (he.pre HG1.out)
      obtain ⟨v0, v1, g0, g1⟩ := cells_two ((he.2.2.block _ hsz (by simp; omega)).trans HRES1.out)
      clear he
      go_wp2_with fail
      refine bodyPost_ret (v := .agg #[.string ⟨#[]⟩, .slice none 0 0]) (by simp [results, Tryz.results140, go_sem, v0, v1]) rfl ?_
      unfold RTPost
      rw [HT.out]
      exact ⟨_, _, _, _, rfl, HE.out.other (grown_trans (grown_set _ _ _ _) (grown_set _ _ _ _)) (Nat.le_refl _) hrw htw⟩
    | succ d' =>
      have HT : Hid (termF (d' + 1) ts = restF d' ts) := by unfold Hid restF; rw [termF, if_pos hb]
      have HNZ := Lib.hid (begT_kind hb)
      have hl4 : lev ≤ 4 := by omega
      have HL := Lib.hid (show lev + (d' : Int) = 4 by omega)
      clear hb hlev hd4
      go_wp2_with fail
      (with_reducible refine (HIC.out d' rfl w1 rb tb cap toks ts i HR1.out HNZ.out lev HL.out).mono ?_)
      cases hct : restF d' ts with
      | err p e =>
        rw [hct] at HT
        clear hct
        rintro e' w3 ⟨nm', A', n', cp', rfl, he⟩
        have HE := Lib.hid (he.pre HG1.out)
        obtain ⟨v0, v1, g0, g1⟩ := cells_two ((he.2.2.block _ hsz (by simp; omega)).trans HRES1.out)
        clear he
        go_wp2_with fail
        refine bodyPost_ret (v := .agg #[.string nm', .slice A' n' cp']) (by simp [results, Tryz.results140, go_sem, v0, v1]) rfl ?_
        unfold RTPost
        rw [HT.out]
        exact ⟨_, _, _, _, rfl, HE.out.other (grown_trans (grown_set _ _ _ _) (grown_set _ _ _ _)) (Nat.le_refl _) hrw htw⟩
      | ok t rest =>
        rw [hct] at HT
        clear hct
        rintro e' w3 ⟨x, rfl, htm, hmv⟩
        obtain ⟨nm', A', cp', l', rfl, rfl⟩ := htm.form
        obtain ⟨v0, v1, g0, g1⟩ := cells_two ((hmv.2.block w.heap.size hsz (by simp; omega)).trans HRES1.out)
        have HTM := Lib.hid htm
        have HMV := Lib.hid hmv
        clear htm hmv
        go_wp2_with fail
        refine bodyPost_ret (v := .agg #[.string (bs nm'), .slice A' l'.length cp']) (by simp [results, Tryz.results140, go_sem, v0, v1]) rfl ?_
        unfold RTPost
        rw [HT.out]
        have hg2 : w3.grownBy ((w3.setCell ⟨w.heap.size, 0, none⟩ (.string (bs nm'))).setCell ⟨w.heap.size, 1, none⟩ (.slice A' l'.length cp')) (some w.heap.size) := grown_trans (grown_set _ _ _ _) (grown_set _ _ _ _)
        exact ⟨[.string (bs nm'), .slice A' l'.length cp'], rfl, HTM.out.other hg2 hsz (by omega), RMoved.other ⟨HMV.out.1, grown_trans HG1.out HMV.out.2⟩ hg2 (Nat.le_refl _) hrw htw⟩

theorem rterm_any : ∀ (d : Nat), d ≤ 4 → ∀ (w : World) (rb tb cap : Nat) (toks ts : List Tok) (i : Nat), RR w rb tb cap toks ts i 0 0 → ∀ lev : Int, lev + d = 5 →
    Calls Tryz.prog 140 #[.pointer (some ⟨rb, 0, none⟩), .int .i64 lev] w (RTPost w rb tb cap toks (termF d ts)) := by
  intro d
  induction d with
  | zero => intro _ w rb tb cap toks ts i h lev hl; exact rterm_of 0 (by omega) (fun d' hd => by omega) w rb tb cap toks ts i h lev hl
  | succ d ih =>
    intro hd w rb tb cap toks ts i h lev hl
    refine rterm_of (d + 1) hd (fun d' hd' => ?_) w rb tb cap toks ts i h lev hl
    obtain rfl : d = d' := by omega
    exact rrest_of d (by omega) (ih (by omega))
theorem rrest_any (w : World) (rb tb cap : Nat) (toks ts : List Tok) (i : Nat) (h : RR w rb tb cap toks ts i 0 0) (hk : (hd ts).kind = 1) :
    Calls Tryz.prog 154 #[.pointer (some ⟨rb, 0, none⟩), .int .i64 1] w (RTPost w rb tb cap toks (compF (termF 3) ts)) := by
  have h1 := rrest_of 3 (by omega) (rterm_any 3 (by omega)) w rb tb cap toks ts i h (by omega) 1 (by omega)
  have h2 : restF 3 ts = compF (termF 3) ts := by unfold restF; rw [if_pos (by rw [hk]; rfl)]
  rw [h2] at h1
  exact h1
end Go.Proofs.YtmplpbdldcokjaaGreatDoor
