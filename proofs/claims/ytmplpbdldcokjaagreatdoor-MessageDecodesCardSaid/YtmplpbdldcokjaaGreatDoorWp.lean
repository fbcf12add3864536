/- ref05.Rule and ref05.Term. -/
import Derived.Test.YtmplpbdldcokjaaGreatDoorXw
import Derived.Test.YtmplpbdldcokjaaGreatDoorXh
namespace Go.Proofs.YtmplpbdldcokjaaGreatDoor
open Go Go.RowKit
set_option linter.unusedSimpArgs false

set_option maxHeartbeats 8000000 in
set_option maxRecDepth 100000 in
theorem refterm_any (w : World) (s : ByteArray) (hs : s.size ≤ 9223372036854775807) :
    Calls Tryz.prog 114 #[.string s] w (OutP (VS TmV) (.agg #[.string ⟨#[]⟩, .slice none 0 0]) w (termRF s.data.toList)) := by
  have hb0 : Below w.heap.size w (w.alloc (.cells #[.string ⟨#[]⟩, .slice none 0 0] 25)) := (Below.refl _ _).alloc (Nat.le_refl _) _
  have HB0 := Lib.hid hb0
  have HRES := Lib.hid (heap_alloc_new w (.cells #[.string ⟨#[]⟩, .slice none 0 0] 25))
  clear hb0
  go_enter Tryz.func114, Tryz.ntmps114
  go_wp2_with fail
  generalize w.alloc (.cells #[.string ⟨#[]⟩, .slice none 0 0] 25) = w0 at *
  have hsz0 := heap_lt HRES.out
  refine (rbegin_any w0 s hs).mono ?_
  rintro e w1 ⟨hb, rb, rfl, hrb, hc⟩
  have HB1 := Lib.hid (HB0.out.trans (hb.mono HB0.out.size))
  have HRES1 := Lib.hid ((hb.block _ hsz0).trans HRES.out)
  have hsz1 := heap_lt HRES1.out
  clear hb HB0 HRES
  cases hlx : lexF s.data.toList with
  | err p x =>
    rw [hlx] at hc
    have HF : Hid (termRF s.data.toList = .err p x) := by unfold Hid termRF readF; rw [hlx]
    have HZ := Lib.hid hc
    have HBZ := Lib.hid HB1.out
    have HRESZ := Lib.hid HRES1.out
    clear hc hlx HB1 HRES1
    obtain ⟨k2, k3, k0, k1, kl⟩ := HZ.out.facts
    obtain ⟨v0, v1, g0, g1⟩ := cells_two HRESZ.out
    have hne : rb ≠ w.heap.size := by omega
    have hne' : w.heap.size ≠ rb := by omega
    go_wp2_with fail
    go_region
    go_wp2_with fail
    refine bodyPost_ret (v := .tuple #[.agg #[.string ⟨#[]⟩, .slice none 0 0], .int .i64 p, .int .i64 x]) (by simp [results, Tryz.results114, go_sem, v0, v1]) rfl ?_
    unfold OutP
    rw [HF.out]
    exact ⟨(below_set (below_set (HBZ.out) _ _ _ (Nat.le_refl _)) _ _ _ (Nat.le_refl _)).drew, rfl⟩
  | ok ts =>
    rw [hlx] at hc
    obtain ⟨tb, cap, hr, htb⟩ := hc
    have HF0 : Hid (termRF s.data.toList = endF (termF 4 ts)) := by unfold Hid termRF readF; rw [hlx]
    obtain ⟨_, _, _, c3, _, _, _⟩ := hr.facts
    have HR := Lib.hid hr
    clear hr hlx
    go_wp2_with fail
    refine (rterm_any 4 (Nat.le_refl _) w1 rb tb cap ts ts 0 HR.out 1 (by omega)).mono ?_
    cases hru : termF 4 ts with
    | err p x =>
      have HF : Hid (termRF s.data.toList = .err p x) := by unfold Hid; rw [HF0.out, hru]; rfl
      clear hru c3
      rintro e' w2 ⟨nm, A, n, cp, rfl, he⟩
      have hsz2 : w1.heap.size ≤ w2.heap.size := he.2.2.size
      have hb2 : Below w.heap.size w (w2.alloc (.cells #[.string nm, .slice A n cp] 25)) := (HB1.out.grown he.2.2 (by omega) (fun k hk => by injection hk; omega)).alloc (by omega) _
      have hres2 : (w2.alloc (.cells #[.string nm, .slice A n cp] 25)).heap[w.heap.size]? = _ := (Below.heap_alloc _ _ _ (by omega)).trans ((he.2.2.block _ hsz1 (by simp; omega)).trans HRES1.out)
      have hz2 := he.z.below (w' := w2.alloc (.cells #[.string nm, .slice A n cp] 25)) ((Below.refl _ _).alloc (Nat.le_refl _) _)
      have HB2 := Lib.hid hb2
      have HRES2 := Lib.hid hres2
      have HZ2 := Lib.hid hz2
      clear hb2 hres2 hz2 he
      go_wp2_with fail
      generalize w2.alloc (.cells #[.string nm, .slice A n cp] 25) = w3 at *
      refine (rend_no HZ2.out).mono ?_
      rintro e w4 ⟨rfl, hb4⟩
      have HZ := Lib.hid (HZ2.out.below hb4)
      have HRESZ := Lib.hid ((hb4.block _ (heap_lt HRES2.out)).trans HRES2.out)
      have HBZ := Lib.hid (HB2.out.trans (hb4.mono HB2.out.size))
      clear hb4 HB2 HRES2 HZ2 HB1 HRES1
      obtain ⟨k2, k3, k0, k1, kl⟩ := HZ.out.facts
      obtain ⟨v0, v1, g0, g1⟩ := cells_two HRESZ.out
      have hne : rb ≠ w.heap.size := by omega
      have hne' : w.heap.size ≠ rb := by omega
      go_wp2_with fail
      go_region
      go_wp2_with fail
      refine bodyPost_ret (v := .tuple #[.agg #[.string ⟨#[]⟩, .slice none 0 0], .int .i64 p, .int .i64 x]) (by simp [results, Tryz.results114, go_sem, v0, v1]) rfl ?_
      unfold OutP
      rw [HF.out]
      exact ⟨(below_set (below_set (HBZ.out) _ _ _ (Nat.le_refl _)) _ _ _ (Nat.le_refl _)).drew, rfl⟩
    | ok t rest =>
      have HF1 : Hid (termRF s.data.toList = endF (.ok t rest)) := by unfold Hid; rw [HF0.out, hru]
      clear hru c3 HF0
      rintro e' w2 ⟨x, rfl, hv, hmv⟩
      have HV := Lib.hid hv
      obtain ⟨nm, A, cp, l, rfl, _⟩ := hv.form
      have hsz2 : w1.heap.size ≤ w2.heap.size := hmv.2.size
      obtain ⟨⟨i2, hr2⟩, hg2⟩ := hmv
      have hal : Below w2.heap.size w2 (w2.alloc (.cells #[.string (bs nm), .slice A l.length cp] 25)) := (Below.refl _ _).alloc (Nat.le_refl _) _
      have hb2 : Below w.heap.size w (w2.alloc (.cells #[.string (bs nm), .slice A l.length cp] 25)) := (HB1.out.grown hg2 (by omega) (fun k hk => by injection hk; omega)).trans (hal.mono (by omega))
      have HB2 := Lib.hid hb2
      have HRES2 := Lib.hid ((hal.block _ (by omega)).trans ((hg2.block _ hsz1 (by simp; omega)).trans HRES1.out))
      have HX2 := Lib.hid (heap_alloc_new w2 (.cells #[.string (bs nm), .slice A l.length cp] 25))
      have HR2 := Lib.hid (hr2.below hal)
      have HV2 : Hid (TmV (w2.alloc (.cells #[.string (bs nm), .slice A l.length cp] 25)) (fun b => w1.heap.size ≤ b) [.string (bs nm), .slice A l.length cp] t) := keeps_tm _ _ _ _ _ _ HV.out (fun b hb hlt => ⟨hb, hal.block b hlt⟩) hal.size
      have hx2 : w.heap.size < w2.heap.size := by omega
      clear hb2 hal hr2 hg2 hv HV HB1 HRES1 HR
      go_wp2_with fail
      generalize w2.alloc (.cells #[.string (bs nm), .slice A l.length cp] 25) = w3 at *
      generalize w2.heap.size = q at *
      refine (rend_ok HR2.out).mono ?_
      cases hk : (hd rest).kind == 0 with
      | true =>
        have HF : Hid (termRF s.data.toList = .ok t) := by unfold Hid; rw [HF1.out]; unfold endF; simp only []; rw [if_pos hk]
        rintro e w4 ⟨rfl, hb4⟩
        unfold REnd at hb4
        rw [if_pos hk] at hb4
        have HR4 := Lib.hid (HR2.out.below hb4)
        have HRES4 := Lib.hid ((hb4.block _ (heap_lt HRES2.out)).trans HRES2.out)
        have HX4 := Lib.hid ((hb4.block _ (heap_lt HX2.out)).trans HX2.out)
        have HB4 := Lib.hid (HB2.out.trans (hb4.mono HB2.out.size))
        have HV4 : Hid (TmV w4 (fun b => w1.heap.size ≤ b) [.string (bs nm), .slice A l.length cp] t) := keeps_tm _ _ _ _ _ _ HV2.out (fun b hb hlt => ⟨hb, hb4.block b hlt⟩) hb4.size
        clear hb4 HR2 HRES2 HX2 HB2 HV2 hk
        obtain ⟨_, _, _, c3, _, _, _⟩ := HR4.out.facts
        obtain ⟨v0, v1, g0, g1⟩ := cells_two HRES4.out
        obtain ⟨y0, y1, z0, z1⟩ := cells_two HX4.out
        have hq : w.heap.size ≠ q := by omega
        have hrl := HR4.out.rlt
        go_wp2_with fail
        refine bodyPost_ret (v := .tuple #[.agg #[.string (bs nm), .slice A l.length cp], .int .i64 0, .int .i64 0]) (by simp [results, Tryz.results114, go_sem, v0, v1]) rfl ?_
        unfold OutP
        rw [HF.out]
        exact ⟨below_set (below_set (HB4.out) _ _ _ (Nat.le_refl _)) _ _ _ (Nat.le_refl _), _, rfl, [.string (bs nm), .slice A l.length cp], rfl, keeps_tm _ _ _ _ _ _ HV4.out (fun b hb hlt => ⟨by omega, (Below.heap_setCell _ _ _ _ (by simp; omega)).trans (Below.heap_setCell _ _ _ _ (by simp; omega))⟩) (by simp)⟩
      | false =>
        have HF : Hid (termRF s.data.toList = .err (hd rest).pos 1) := by unfold Hid; rw [HF1.out]; unfold endF; simp only []; rw [if_neg (by rw [hk]; exact Bool.false_ne_true)]
        rintro e w4 ⟨rfl, he4⟩
        unfold REnd at he4
        rw [if_neg (by rw [hk]; exact Bool.false_ne_true)] at he4
        have HZ := Lib.hid he4.z
        have HRESZ := Lib.hid ((he4.2.2.block _ (heap_lt HRES2.out) (by simp; omega)).trans HRES2.out)
        have HBZ := Lib.hid (HB2.out.grown he4.2.2 HB2.out.size (fun k hk => by injection hk; omega))
        clear he4 HR2 HRES2 HX2 HB2 HV2 hk
        generalize (hd rest).pos = p at *
        obtain ⟨k2, k3, k0, k1, kl⟩ := HZ.out.facts
        obtain ⟨v0, v1, g0, g1⟩ := cells_two HRESZ.out
        have hne : rb ≠ w.heap.size := by omega
        have hne' : w.heap.size ≠ rb := by omega
        go_wp2_with fail
        go_region
        go_wp2_with fail
        refine bodyPost_ret (v := .tuple #[.agg #[.string ⟨#[]⟩, .slice none 0 0], .int .i64 p, .int .i64 1]) (by simp [results, Tryz.results114, go_sem, v0, v1]) rfl ?_
        unfold OutP
        rw [HF.out]
        exact ⟨(below_set (below_set (HBZ.out) _ _ _ (Nat.le_refl _)) _ _ _ (Nat.le_refl _)).drew, rfl⟩
end Go.Proofs.YtmplpbdldcokjaaGreatDoor
