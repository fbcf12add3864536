/- The law PrinterTexts for rules of moderate size. -/
import Derived.Test.YthkbnjojkeeffaaDoorXp
import Derived.Test.YthkbnjojkeeffaaDoorHd
namespace Go.Proofs.YthkbnjojkeeffaaDoor
open Go Go.RowKit Go.Shelf
set_option linter.unusedSimpArgs false

theorem trans5h {w a b : World} (h : Hid (Below w.heap.size w a)) (hb : Below a.heap.size a b) : Below w.heap.size w b := h.out.trans (hb.mono h.out.size)
theorem keep4 {w4 x : World} {a b c d : Addr} {va vb vc vd : Value} (h : w4.cell? a = some va ∧ w4.cell? b = some vb ∧ w4.cell? c = some vc ∧ w4.cell? d = some vd ∧ a.block < w4.heap.size ∧ b.block < w4.heap.size ∧ c.block < w4.heap.size ∧ d.block < w4.heap.size)
    (hb : Below w4.heap.size w4 x) : x.cell? a = some va ∧ x.cell? b = some vb ∧ x.cell? c = some vc ∧ x.cell? d = some vd ∧ Hid (Below w4.heap.size w4 x) := by
  obtain ⟨h1, h2, h3, h4, l1, l2, l3, l4⟩ := h
  exact ⟨(hb.cell l1).trans h1, (hb.cell l2).trans h2, (hb.cell l3).trans h3, (hb.cell l4).trans h4, hb⟩
theorem last4 {p1 p2 p3 p4 p : Prop} (h : p1 ∧ p2 ∧ p3 ∧ p4 ∧ Hid p) : p := h.2.2.2.2.out
theorem keep3 {w4 x : World} {a b c : Addr} {va vb vc : Value} (h : w4.cell? a = some va ∧ w4.cell? b = some vb ∧ w4.cell? c = some vc ∧ a.block < w4.heap.size ∧ b.block < w4.heap.size ∧ c.block < w4.heap.size)
    (hb : Below w4.heap.size w4 x) : x.cell? a = some va ∧ x.cell? b = some vb ∧ x.cell? c = some vc ∧ Hid (Below w4.heap.size w4 x) := by
  obtain ⟨h1, h2, h3, l1, l2, l3⟩ := h
  exact ⟨(hb.cell l1).trans h1, (hb.cell l2).trans h2, (hb.cell l3).trans h3, hb⟩
theorem last3 {p1 p2 p3 p : Prop} (h : p1 ∧ p2 ∧ p3 ∧ Hid p) : p := h.2.2.2.out

set_option maxHeartbeats 8000000 in
set_option maxRecDepth 100000 in
theorem law_texts (w : World) (hW : Wd w) (P : Nat → Prop) (nm : List UInt8) (A : Option Addr) (cp : Nat) (l : List Tm) (A2 : Option Addr) (cp2 : Nat) (body : List Li) (hv : TmV w P [.string (bs nm), .slice A l.length cp] (.mk nm l)) (ha : SlV LiV 3 w P A2 body) (hP : ∀ b, P b → b < w.heap.size) (hR : RuW ⟨.mk nm l, body⟩) :
    Calls Tryd.prog 3 #[.agg #[.string (bs nm), .slice A l.length cp, .slice A2 body.length cp2]] w (YesP w) := by
  have HW := Lib.hid hW
  have HBX := Lib.hid (one_box w (.cells #[.string (bs nm), .slice A l.length cp, .slice A2 body.length cp2] 27))
  have CF := Lib.hid (fun (y : World) (hy : Below w.heap.size w y) => few_any y P nm A cp l A2 cp2 body (hv.keep (fun b' hp hb' => ⟨hp, hy.block b' hb'⟩) hy.size) (ha.keep keeps_li (fun b' hp hb' => ⟨hp, hy.block b' hb'⟩) hy.size) hR.tmb (Nat.le_trans hR.len (by omega)) hR.tmbs)
  have CT := Lib.hid (fun (y : World) (hy : Below w.heap.size w y) => rulex_any y P nm A cp l A2 cp2 body (hv.keep (fun b' hp hb' => ⟨hp, hy.block b' hb'⟩) hy.size) (ha.keep keeps_li (fun b' hp hb' => ⟨hp, hy.block b' hb'⟩) hy.size) (fun b' hp => Nat.lt_of_lt_of_le (hP b' hp) hy.size) (Nat.le_trans hR.head (by omega)) (Nat.le_trans hR.len (by omega)) (fun t ht => Nat.le_trans (hR.lits t ht) (by omega)) (Nat.le_trans hR.body (by omega)))
  have CU := Lib.hid (fun (y : World) (hy : Below w.heap.size w y) => rrulex_any y P nm A cp l A2 cp2 body (hv.keep (fun b' hp hb' => ⟨hp, hy.block b' hb'⟩) hy.size) (ha.keep keeps_li (fun b' hp hb' => ⟨hp, hy.block b' hb'⟩) hy.size) (fun b' hp => Nat.lt_of_lt_of_le (hP b' hp) hy.size) (Nat.le_trans hR.head (by omega)) (Nat.le_trans hR.len (by omega)) (fun t ht => Nat.le_trans (hR.lits t ht) (by omega)) (fun j => Nat.le_trans (hR.text j) (by omega)))
  have CA := Lib.hid (fun (y : World) (hy : Below w.heap.size w y) => awake_any y (HW.out.below hy HW.out.1))
  obtain ⟨xs', hxl, harr, hel⟩ := ha
  have HV := Lib.hid (And.intro hxl (And.intro harr (And.intro hel (And.intro hP hR.lits))))
  have hlen : body.length ≤ 9223372036854775807 := Nat.le_trans hR.len (by omega)
  clear hv hxl harr hel hP hR hW
  generalize bs (ruleT ⟨.mk nm l, body⟩) = sr at *
  go_enter Tryd.func3, Tryd.ntmps3
  have c0 := cell_blk HBX.out.2 0
  have c1 := cell_blk HBX.out.2 1
  have c2 := cell_blk HBX.out.2 2
  go_wp2_with fail
  clear c0 c1 c2
  generalize w.alloc (.cells #[.string (bs nm), .slice A l.length cp, .slice A2 body.length cp2] 27) = w0 at *
  refine (CF.out w0 HBX.out.1).mono ?_
  rintro e w1 ⟨q, rfl, hb⟩
  have HB1 := Lib.hid (HBX.out.1.trans (hb.mono HBX.out.1.size))
  have HX1 := Lib.hid ((hb.block _ (Array.getElem?_eq_some_iff.1 HBX.out.2).1).trans HBX.out.2)
  clear hb CF HBX
  cases q
  · go_wp2_with fail
    refine (CA.out _ HB1.out).mono ?_
    rintro e w2 ⟨rfl, hb⟩
    have HB2 := Lib.hid (HB1.out.trans (hb.mono HB1.out.size))
    clear hb
    go_wp2_with fail
    go_ret
    exact ⟨rfl, HB2.out⟩
  go_wp2_with fail
  go_loopw [3] (fun i wr => ∃ k : Nat, k ≤ body.length ∧ i = .int .i64 k ∧ Hid (Below w1.heap.size w1 wr)) (fun i _ => body.length - (intOf i).toNat)
  case atStart => exact ⟨0, Nat.zero_le _, rfl, Below.refl _ _⟩
  case round =>
    obtain ⟨k, hk, rfl, HI⟩ := hrel
    have HB0 := Lib.hid (HB1.out.trans (HI.out.mono HB1.out.size))
    have HX := Lib.hid ((HI.out.block _ (Array.getElem?_eq_some_iff.1 HX1.out).1).trans HX1.out)
    have hqb := (Array.getElem?_eq_some_iff.1 HX.out).1
    have c2 := cell_blk HX.out 2
    have HR0 := Lib.hid (Below.refl wr.heap.size wr)
    by_cases hlk : k < body.length
    rotate_left
    focus
      obtain rfl : k = body.length := by omega
      have c0 := cell_blk HX.out 0
      have c1 := cell_blk HX.out 1
      have HC := Lib.hid (And.intro c0 (And.intro c1 (And.intro c2 (And.intro hqb (And.intro hqb hqb)))))
      go_wp2_with fail
      clear c0 c1 c2 hqb
      go_region_held3 (fun y => y.cell? ⟨w.heap.size, 0, none⟩ = some (.string (bs nm)) ∧ y.cell? ⟨w.heap.size, 1, none⟩ = some (.slice A l.length cp) ∧ y.cell? ⟨w.heap.size, 2, none⟩ = some (.slice A2 body.length cp2) ∧ Hid (Below wr.heap.size wr y)) (first | (exact keep3 HC.out (Below.drew HR0.out)) | (exact keep3 HC.out (Below.drew (last3 ‹_ ∧ _ ∧ _ ∧ Hid _›))) | (exact keep3 HC.out (trans5h (Lib.hid (last3 ‹_ ∧ _ ∧ _ ∧ Hid _›)) hb9))) (first | (go_at_call 15; refine (CT.out _ (HB0.out.trans (Below.mono (last3 ‹_ ∧ _ ∧ _ ∧ Hid _›) HB0.out.size))).mono ?_; rintro e9 w9 ⟨rfl, hb9⟩) | (go_at_call 16; refine (CU.out _ (HB0.out.trans (Below.mono (last3 ‹_ ∧ _ ∧ _ ∧ Hid _›) HB0.out.size))).mono ?_; rintro e9 w9 ⟨rfl, hb9⟩) | (go_at_call 12; refine (CA.out _ (HB0.out.trans (Below.mono (last3 ‹_ ∧ _ ∧ _ ∧ Hid _›) HB0.out.size))).mono ?_; rintro e9 w9 ⟨rfl, hb9⟩))
      go_wp2_with fail
      go_ret
      exact ⟨rfl, HB0.out.trans (Below.mono (last3 ‹_ ∧ _ ∧ _ ∧ Hid _›) HB0.out.size)⟩
    obtain ⟨t, ht⟩ : ∃ t, body[k]? = some t := ⟨_, List.getElem?_eq_getElem hlk⟩
    obtain ⟨x, hx⟩ : ∃ x, xs'[k]? = some x := ⟨_, List.getElem?_eq_getElem (by rw [HV.out.1]; exact hlk)⟩
    have hv := HV.out.2.2.1 k x t hx ht
    obtain ⟨ng, nm', A', cp', l', rfl, rfl⟩ := hv.form
    obtain ⟨y', hy', hvt⟩ := hv
    obtain rfl : [.string (bs nm'), .slice A' l'.length cp'] = y' := by injection hy'
    obtain ⟨b0, o0, rfl, hb0, hbl, hc⟩ := HV.out.2.1 (by rw [HV.out.1]; omega)
    have hwt : wT (.mk nm' l') ≤ 10000000 := HV.out.2.2.2.2 _ (List.mem_of_getElem? ht)
    have hbr := Nat.lt_of_lt_of_le hbl HB0.out.size
    have f0 := (HB0.out.cell (p := ⟨b0, o0 + k * 3, none⟩) hbl).trans (hc k _ hx 0 _ rfl)
    have f1 := (HB0.out.cell (p := ⟨b0, o0 + k * 3 + 1, none⟩) hbl).trans (hc k _ hx 1 _ rfl)
    have f2 := (HB0.out.cell (p := ⟨b0, o0 + k * 3 + 2, none⟩) hbl).trans (hc k _ hx 2 _ rfl)
    have HC := Lib.hid (And.intro c2 (And.intro f0 (And.intro f1 (And.intro f2 (And.intro hqb (And.intro hbr (And.intro hbr hbr)))))))
    have CL := Lib.hid (fun (y : World) (hy : Below w.heap.size w y) => litw_any y P ng nm' A' cp' l' (hvt.keep (fun b' hp hb' => ⟨hp, hy.block b' hb'⟩) hy.size) (fun b' hp => Nat.lt_of_lt_of_le (HV.out.2.2.2.1 b' hp) hy.size) (by omega))
    have CM := Lib.hid (fun (y : World) (hy : Below w.heap.size w y) => rlitw_any y P ng nm' A' cp' l' (hvt.keep (fun b' hp hb' => ⟨hp, hy.block b' hb'⟩) hy.size) (fun b' hp => Nat.lt_of_lt_of_le (HV.out.2.2.2.1 b' hp) hy.size) (by omega))
    clear hvt hy' hx hc ht hwt
    generalize bs (litT ⟨ng, .mk nm' l'⟩) = sl at *
    go_wp2_with fail
    clear c2 f0 f1 f2 hqb hbr
    go_region_held3 (fun y => y.cell? ⟨w.heap.size, 2, none⟩ = some (.slice (some ⟨b0, o0, none⟩) body.length cp2) ∧ y.cell? ⟨b0, o0 + k * 3, none⟩ = some (.bool ng) ∧ y.cell? ⟨b0, o0 + k * 3 + 1, none⟩ = some (.string (bs nm')) ∧ y.cell? ⟨b0, o0 + k * 3 + 2, none⟩ = some (.slice A' l'.length cp') ∧ Hid (Below wr.heap.size wr y)) (first | (exact keep4 HC.out (Below.drew HR0.out)) | (exact keep4 HC.out (Below.drew (last4 ‹_ ∧ _ ∧ _ ∧ _ ∧ Hid _›))) | (exact keep4 HC.out (trans5h (Lib.hid (last4 ‹_ ∧ _ ∧ _ ∧ _ ∧ Hid _›)) hb9))) (first | (go_at_call 13; refine (CL.out _ (HB0.out.trans (Below.mono (last4 ‹_ ∧ _ ∧ _ ∧ _ ∧ Hid _›) HB0.out.size))).mono ?_; rintro e9 w9 ⟨rfl, hb9⟩) | (go_at_call 14; refine (CM.out _ (HB0.out.trans (Below.mono (last4 ‹_ ∧ _ ∧ _ ∧ _ ∧ Hid _›) HB0.out.size))).mono ?_; rintro e9 w9 ⟨rfl, hb9⟩))
    go_wp2_with fail
    go_roundw
    case rel => exact ⟨k + 1, by omega, by go_num, HI.out.trans (Below.mono (last4 ‹_ ∧ _ ∧ _ ∧ _ ∧ Hid _›) HI.out.size)⟩
    case measure => simp [intOf]; omega
theorem wL_take (l : List Tm) : ∀ k, wL (l.take k) ≤ wL l := by
  induction l with
  | nil => simp [wL]
  | cons a l ih =>
    intro k
    cases k with
    | zero => simp [wL]
    | succ k => have := ih k; simp [wL]; omega
theorem joinTx_tail (l : List Tm) : (Lib.joinTail [44, 32] (txs l)).length ≤ 3 * wL l := by
  induction l with
  | nil => simp [txs, Lib.joinTail]
  | cons a l ih =>
    have h := textT_len a
    have h1 := wT_pos a
    have : (Lib.joinTail [44, 32] (txs (a :: l))) = [44, 32] ++ textT a ++ Lib.joinTail [44, 32] (txs l) := by simp [txs, Lib.joinTail]
    rw [this]
    simp [wL]
    omega
theorem joinTx_len (l : List Tm) : (Lib.join (txs l) [44, 32]).length ≤ 3 * wL l := by
  cases l with
  | nil => simp [txs, Lib.join, List.intercalate, wL]
  | cons a l =>
    have h := textT_len a
    have h2 := joinTx_tail l
    have : Lib.join (txs (a :: l)) [44, 32] = textT a ++ Lib.joinTail [44, 32] (txs l) := by
      unfold txs
      rw [List.map_cons, Lib.join_cons]
    rw [this]
    simp [wL]
    omega
theorem law_terms_up (w : World) (hW : Wd w) (A : Option Addr) (cp : Nat) (l : List Tm) (ha : SlV TmV 2 w (· < w.heap.size) A l) (hw : wL l ≤ 10000000) :
    Calls Tryd.prog 4 #[.slice A l.length cp] w (YesP w) :=
  law_terms w hW (· < w.heap.size) A cp l (by have := wLx_len l; omega) ha (fun _ h => h) (fun t ht => by have := wL_mem ht; omega) (fun k => by have := joinTx_len (l.take k); have := wL_take l k; omega)
end Go.Proofs.YthkbnjojkeeffaaDoor
