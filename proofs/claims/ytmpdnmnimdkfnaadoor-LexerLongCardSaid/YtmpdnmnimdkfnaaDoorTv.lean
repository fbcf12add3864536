/- The walk of the law LexerLong. -/
import Derived.Test.YtmpdnmnimdkfnaaDoorTq
import Derived.Laws.BytesString
import Derived.Laws.IdiomStrings
import Derived.Laws.OwnMore
namespace Go.Proofs.YtmpdnmnimdkfnaaDoor
open Go Go.RowKit Go.Shelf
set_option linter.unusedSimpArgs false

/-- k blanks, then zeros, n in all -/
def blk (n k : Nat) : List Value := List.replicate k (.int .u8 32) ++ List.replicate (n - k) (.int .u8 0)
theorem blk_len {n k : Nat} (h : k ≤ n) : (blk n k).length = n := by unfold blk; simp; omega
theorem blk_get {n k : Nat} (h : k < n) : (blk n k)[k]? = some (.int .u8 0) := by
  unfold blk
  rw [List.getElem?_append_right (by simp)]
  simp [List.getElem?_replicate]; omega
theorem blk_set {n k : Nat} (h : k < n) : (blk n k).set k (.int .u8 32) = blk n (k + 1) := by
  unfold blk
  obtain ⟨m, hm⟩ : ∃ m, n - k = m + 1 := ⟨n - k - 1, by omega⟩
  rw [show n - (k + 1) = m from by omega, hm, List.set_append_right _ _ (by simp), List.length_replicate, Nat.sub_self, List.replicate_succ, List.set_cons_zero, List.replicate_succ', List.append_assoc]
  rfl
theorem blk_full (n : Nat) : blk n n = List.replicate n (.int .u8 32) := by unfold blk; simp

theorem lexGo_blanks : ∀ (n f off : Nat) (r : List UInt8), lexGo (n + f) off (List.replicate n 32 ++ r) = lexGo f (off + n) r := by
  intro n
  induction n with
  | zero => intro f off r; simp
  | succ n ih =>
    intro f off r
    rw [List.replicate_succ, List.cons_append, show n + 1 + f = (n + f) + 1 from by omega, lexGo_blank _ _ _ _ (by decide), ih, show off + 1 + n = off + (n + 1) from by omega]
theorem lexGo_a (off : Nat) : lexGo 2 off [97] = .ok [⟨1, [97], off⟩, ⟨0, [], off + 1⟩] := by
  rw [lexGo_run _ _ _ _ (by decide) (by decide) (by decide) (by decide)]
  rfl
theorem lexF_long (n : Nat) (hn : n = 16383) : lexF (List.replicate n 32 ++ [97]) = .ok [⟨1, [97], n⟩, ⟨0, [], n + 1⟩] := by
  unfold lexF
  have hl : (List.replicate n (32 : UInt8) ++ [97]).length = n + 1 := by simp
  rw [hl, if_neg (by omega), show n + 1 + 1 = n + 2 from rfl]
  have h := lexGo_blanks n 2 0 [97]
  rw [Nat.zero_add] at h
  exact h.trans (lexGo_a n)
theorem lexF_too {l : List UInt8} (h : 16384 < l.length) : lexF l = .err 0 2 := by unfold lexF; rw [if_pos h]

theorem infoU8 : (Tryd.prog.info? 5).map (fun i => (i.zero, i.size, i.bytes)) = some (some (.int .u8 0), 1, 1) := by kernel_rfl
theorem cv_row {w : World} {B g n cap : Nat} {l : List UInt8} (h : w.ownsRow B 5 1 (.slice (some ⟨g, 0, none⟩) n cap) n (l.map fun b => .int .u8 (b.toNat : Int))) (hl : l.length = n) :
    (Go.convert 38 9 (.slice (some ⟨g, 0, none⟩) n cap)).run Tryd.prog w = .ok (.string (bs l)) w := by
  have := run_convert_bytes_back (P := Tryd.prog) w 38 9 5 ⟨g, 0, none⟩ cap l Tryd.underlying38 Tryd.underlying5 Tryd.underlying9 (fun j hj => h.cells (g := g) rfl j _ (by simp [hj]))
  rw [hl] at this
  exact this
theorem rep_row (n : Nat) : List.replicate n (Value.int .u8 32) = (List.replicate n (32 : UInt8)).map fun b => .int .u8 (b.toNat : Int) := by
  rw [List.map_replicate]; rfl

theorem own_keepB {w w' : World} {base : Nat} {e : TypeId} {size : Nat} {v : Value} {n : Nat} {xs : List Value} (h : w.ownsRow base e size v n xs) (hb : Below w.heap.size w w') : w'.ownsRow base e size v n xs :=
  ⟨h.1, h.2.imp id fun ⟨g, cap, cur, hv, hbs, hg, r⟩ => ⟨g, cap, cur, hv, hbs, (hb.block g (Array.getElem?_eq_some_iff.1 hg).1).trans hg, r⟩⟩
set_option maxHeartbeats 8000000 in
set_option maxRecDepth 100000 in
theorem law_long (w : World) (more last : Int) (hm : 0 ≤ more ∧ more ≤ 255) (hl : 0 ≤ last ∧ last ≤ 255) (hw : Wd w) : Calls Tryd.prog 10 #[.int .u8 more, .int .u8 last] w (YesP w) := by
  have HW := Lib.hid hw
  have HL := Lib.hid hl
  clear hw hl
  obtain ⟨N, hN⟩ : ∃ N : Nat, N = 16383 := ⟨_, rfl⟩
  have hNI : (N : Int) = 16383 := by omega
  have HN := Lib.hid hN
  obtain ⟨i0, hi0, hz0, hz1, hz2⟩ := info_parts infoU8
  obtain ⟨w1, hmk, hown, hgr⟩ := run_make_full (P := Tryd.prog) (w := w) w.heap.size 38 5 i0 (.int .u8 0) 1 Tryd.underlying38 hi0 hz0 hz1 .i64 .i64 N (by rw [hz2]; omega) (by unfold maxLen; omega) (Nat.le_refl _)
  have hown0 : w1.ownsRow w.heap.size 5 1 (.slice (some ⟨w.heap.size, 0, none⟩) N N) N (blk N 0) := by
    have e : blk N 0 = (madeCells (Value.int .u8 0).cells (N * 1)).toList := by
      rw [Nat.mul_one]
      exact (toList_madeCells_one _ _).symm ▸ (by unfold blk; simp)
    rw [e]; exact hown
  rw [hNI] at hmk
  have HO := Lib.hid hown0
  have HB1 := Lib.hid ((Below.refl w.heap.size w).grown hgr (Nat.le_refl _) (by simp))
  have HI0 := Lib.hid hi0
  have HZ0 := Lib.hid hz0
  have HZ1 := Lib.hid hz1
  have HZ2 := Lib.hid hz2
  clear hown hown0 hgr hi0 hz0 hz1 hz2 hN
  generalize hg : w.heap.size = g at *
  have HG := Lib.hid hg
  clear hg
  go_enter Tryd.func10, Tryd.ntmps10
  go_wp2_with fail
  have HM := Lib.hid hm
  clear hm hmk
  go_loopw [6] (fun i wr => ∃ k : Nat, k ≤ N ∧ i = .int .i64 k ∧ Hid (wr.ownsRow g 5 1 (.slice (some ⟨g, 0, none⟩) N N) N (blk N k) ∧ Below g w wr)) (fun i _ => N - (intOf i).toNat)
  case atStart => exact ⟨0, Nat.zero_le _, rfl, HO.out, HB1.out⟩
  case round =>
    obtain ⟨k, hk, rfl, HI⟩ := hrel
    by_cases hlk : k < N
    focus
      have hc : wr.cell? ⟨g, k, none⟩ = some (.int .u8 0) := (HI.out.1.cellAt k (by omega)).trans (blk_get hlk)
      have hf := HI.out.1.frozenAt k
      have hst := HI.out.1.stored k (.int .u8 32)
      rw [blk_set hlk] at hst
      have HS := Lib.hid (And.intro hst.1 (HI.out.2.grown hst.2 (HG.out ▸ HI.out.2.size) (by simp)))
      clear hst
      go_wp2_with fail
      go_roundw
      case rel => exact ⟨k + 1, by omega, by go_num, HS.out⟩
      case measure => simp [intOf]; omega
    obtain rfl : k = N := by omega
    clear hk hlk
    have hrow : wr.ownsRow g 5 1 (.slice (some ⟨g, 0, none⟩) k k) k ((List.replicate k (32 : UInt8)).map fun b => .int .u8 (b.toNat : Int)) := by
      rw [← rep_row, ← blk_full]; exact HI.out.1
    have hcv := cv_row hrow (by simp)
    have hsz1 : (bs (List.replicate k 32)).size = k := by rw [size_bs]; simp
    have hN2 := HN.out
    have hadd : ∀ y : World, (Op.stringOp .add (bs (List.replicate k 32)) ⟨#[97]⟩).run Tryd.prog y = .ok (.string (bs (List.replicate k 32 ++ [97]))) y := fun y => by
      rw [← bs_app]
      exact str_add (by rw [hsz1]; show k + 1 ≤ _; unfold maxLen; omega)
    have hsz2 : (bs (List.replicate k 32 ++ [97])).size ≤ 9223372036854775807 := by rw [size_bs]; simp; omega
    have P := Lib.hid (lexO_any (s := bs (List.replicate k 32 ++ [97])) hsz2 (by rw [toList_bs]; exact lexF_long k HN.out))
    have HROW := Lib.hid hrow
    have HBR := Lib.hid HI.out.2
    clear hrow hsz1 hsz2 HI hN2
    generalize bs (List.replicate k 32 ++ [97]) = sa at *
    generalize bs (List.replicate k 32) = sb at *
    have HWR := Lib.hid (HW.out.b (HG.out ▸ HBR.out))
    go_wp2_with fail
    refine (P.out wr HWR.out).mono ?_
    rintro e w2 ⟨gt, ct, rfl, hb, htk⟩
    have HB2 := Lib.hid hb
    have HT2 := Lib.hid htk
    clear hb htk
    obtain ⟨b, o, hA, hlt, hc⟩ := HT2.out (by simp)
    simp only [Option.some.injEq, Addr.mk.injEq, and_true] at hA
    obtain ⟨rfl, rfl⟩ := hA
    have c0 : w2.cell? ⟨gt, 2, none⟩ = some (.int .i64 (k : Int)) := (hc 0 _ rfl).2.2
    have c1 : w2.cell? ⟨gt, 5, none⟩ = some (.int .i64 16384) := by
      have h := (hc 1 _ rfl).2.2
      have e : ((k + 1 : Nat) : Int) = 16384 := by omega
      rw [e] at h
      exact h
    rw [hNI] at c0
    clear hc hlt hcv hadd P
    have HR2 := Lib.hid ((own_keepB HROW.out HB2.out))
    have HBZ := Lib.hid (HBR.out.trans (HB2.out.mono (HG.out ▸ HBR.out.size)))
    go_wp2_with fail
    have hM2 := HM.out
    clear c0 c1
    go_loopw [5, 10] (fun v i wx => ∃ j : Nat, (j : Int) ≤ more + 1 ∧ i = .int .i64 j ∧ Hid (wx.ownsRow g 5 1 v (k + j) ((List.replicate (k + j) (32 : UInt8)).map fun b => .int .u8 (b.toNat : Int)) ∧ Below g w wx)) (fun _ i _ => 257 - (intOf i).toNat)
    case atStart => exact ⟨0, by omega, rfl, HR2.out, HBZ.out⟩
    case round =>
      obtain ⟨j, hj, rfl, HI⟩ := hrel
      have hk1 : k ≤ 16383 := Nat.le_of_eq HN.out
      have hk2 : 16383 ≤ k := Nat.le_of_eq HN.out.symm
      have hsz : g ≤ wr.heap.size := HG.out ▸ HI.out.2.size
      by_cases hlj : (j : Int) ≤ more
      focus
        have t1 : decide ((j : Int) ≤ more) = true := by simpa using hlj
        have HO2 := Lib.hid (HI.out.1.alloc (.cells #[.int .u8 32] 5))
        have HBA := Lib.hid (HI.out.2.alloc (HG.out ▸ hsz) (.cells #[.int .u8 32] 5))
        generalize hn : k + j = n at *
        go_wp2_with (at_builtin; refine wpList_append_own _ rfl _ _ 38 rfl g 5 i0 (.int .u8 0) 1 1 Tryd.underlying38 HI0.out HZ0.out HZ1.out HZ2.out rfl (by decide) _ _ _ rfl HO2.out ⟨wr.heap.size, 0, none⟩ 1 1 [.int .u8 32] rfl rfl ?c1 ?c2 ?c3 ?c4 ?c5 ?_)
        try (case c1 =>
          intro j u hj
          match j, hj with
          | 0, hj => simp at hj; subst hj; simp [Addr.add])
        case c2 => first | rfl | (intro u hu; simp at hu; subst hu; rfl)
        case c3 => unfold maxLen; omega
        case c4 => omega
        case c5 => first | omega | (simp; omega)
        intro v' w3 hown' hgrow _
        have HO3 := Lib.hid hown'
        have HB3 := Lib.hid (HBA.out.grown hgrow (by simp; omega) (fun q hq => (HO2.out.lt q hq).1))
        clear hown' hgrow
        go_wp2_with fail
        go_roundw
        case rel =>
          refine ⟨j + 1, by omega, by go_num, ?_, HB3.out⟩
          have e : (List.replicate (k + (j + 1)) (32 : UInt8)).map (fun b => Value.int .u8 (b.toNat : Int)) = (List.replicate n (32 : UInt8)).map (fun b => Value.int .u8 (b.toNat : Int)) ++ [.int .u8 32] := by
            rw [← Nat.add_assoc, hn, List.replicate_succ', List.map_append]
            rfl
          rw [e, ← Nat.add_assoc, hn]
          first | exact HO3.out | (rw [← rep_row]; exact HO3.out)
        case measure => simp [intOf]; omega
      have t1 : decide ((j : Int) ≤ more) = false := by simpa using hlj
      have HO2 := Lib.hid (HI.out.1.alloc (.cells #[.int .u8 last] 5))
      have HBA := Lib.hid (HI.out.2.alloc (HG.out ▸ hsz) (.cells #[.int .u8 last] 5))
      have hjl : 16384 ≤ k + j := by omega
      generalize hn : k + j = n at *
      go_wp2_with (at_builtin; refine wpList_append_own _ rfl _ _ 38 rfl g 5 i0 (.int .u8 0) 1 1 Tryd.underlying38 HI0.out HZ0.out HZ1.out HZ2.out rfl (by decide) _ _ _ rfl HO2.out ⟨wr.heap.size, 0, none⟩ 1 1 [.int .u8 last] rfl rfl ?c1 ?c2 ?c3 ?c4 ?c5 ?_)
      try (case c1 =>
        intro j u hj
        match j, hj with
        | 0, hj => simp at hj; subst hj; simp [Addr.add])
      case c2 => first | rfl | (intro u hu; simp at hu; subst hu; rfl)
      case c3 => unfold maxLen; omega
      case c4 => omega
      case c5 => first | omega | (simp; omega)
      intro v' w3 hown' hgrow _
      obtain ⟨lb, hlb⟩ : ∃ lb : UInt8, (lb.toNat : Int) = last := ⟨UInt8.ofNat last.toNat, by have := HL.out; simp; omega⟩
      have hown3 : w3.ownsRow g 5 1 v' (n + 1) ((List.replicate n (32 : UInt8) ++ [lb]).map fun b => .int .u8 (b.toNat : Int)) := by
        rw [List.map_append, List.map_cons, List.map_nil, hlb]
        first | exact hown' | (rw [← rep_row]; exact hown')
      have HB3 := Lib.hid (HBA.out.grown hgrow (by simp; omega) (fun q hq => (HO2.out.lt q hq).1))
      have HW3 := Lib.hid (HW.out.b (by rw [HG.out]; exact HB3.out))
      obtain ⟨g3, c3, rfl, _, _⟩ := hown3.form (by omega)
      have hcv := cv_row hown3 (by simp)
      have P := Lib.hid (lexN_any (s := bs (List.replicate n 32 ++ [lb])) (by rw [size_bs]; simp; omega) (by rw [toList_bs]; exact lexF_too (by simp; omega)))
      clear hown' hgrow hown3
      generalize bs (List.replicate n 32 ++ [lb]) = sl at *
      go_wp2_with fail
      refine (P.out w3 HW3.out).mono ?_
      rintro e w4 ⟨rfl, hb⟩
      have HB4 := Lib.hid (HB3.out.trans (hb.mono (HG.out ▸ HB3.out.size)))
      have HW4 := Lib.hid (HW.out.b (by rw [HG.out]; exact HB4.out))
      clear hb
      go_wp2_with fail
      refine (awake_any w4 HW4.out).mono ?_
      rintro e w5 ⟨rfl, hb⟩
      have HB5 := Lib.hid (HB4.out.trans (hb.mono (HG.out ▸ HB4.out.size)))
      clear hb
      go_wp2_with fail
      go_ret
      exact ⟨rfl, by rw [HG.out]; exact HB5.out⟩
end Go.Proofs.YtmpdnmnimdkfnaaDoor
