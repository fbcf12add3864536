/- The walks of (*parser.reader).terms and parser.Term$1. -/
import Derived.Test.YtnlphgpcpdfjhaaDoorRs
namespace Go.Proofs.YtnlphgpcpdfjhaaDoor
open Go Go.RowKit
set_option linter.unusedSimpArgs false

theorem tail_len {ts : List Tok} (h : (hd ts).kind ≠ 0) : ts.tail.length + 1 = ts.length := by
  cases ts with
  | nil => exact absurd rfl h
  | cons a r => rfl
theorem argsF_len {tf : List Tok → PR Tm} (htf : ∀ ts t r, tf ts = .ok t r → r.length < ts.length) :
    ∀ (n : Nat) (acc : List Tm) (ts : List Tok) (l : List Tm) (r : List Tok), argsF tf n acc ts = .ok l r → r.length < ts.length := by
  intro n
  induction n with
  | zero => intro acc ts l r h; cases h
  | succ n ih =>
    intro acc ts l r h
    rw [argsF] at h
    split at h
    · cases h
    · split at h
      · cases h
      · rename_i t ts' ht
        have h1 := htf _ _ _ ht
        split at h
        · have := ih _ _ _ _ h
          have h2 : ts'.tail.length ≤ ts'.length := by rw [List.length_tail]; omega
          omega
        · split at h
          · cases h
            have h2 : ts'.tail.length ≤ ts'.length := by rw [List.length_tail]; omega
            omega
          · cases h
theorem compF_len {tf : List Tok → PR Tm} (htf : ∀ ts t r, tf ts = .ok t r → r.length < ts.length) {ts r : List Tok} {t : Tm} (hk : (hd ts).kind ≠ 0) (h : compF tf ts = .ok t r) : r.length < ts.length := by
  have h0 := tail_len hk
  unfold compF at h
  split at h
  · split at h
    · cases h
    · rename_i l ts' ht
      cases h
      have := argsF_len htf _ _ _ _ _ ht
      have h2 : ts.tail.tail.length ≤ ts.tail.length := by rw [List.length_tail]; omega
      omega
  · cases h; omega
theorem termF_len : ∀ (d : Nat) (ts : List Tok) (t : Tm) (r : List Tok), termF d ts = .ok t r → r.length < ts.length := by
  intro d
  induction d with
  | zero => intro ts t r h; rw [termF] at h; split at h <;> cases h
  | succ d ih =>
    intro ts t r h
    rw [termF] at h
    split at h
    · rename_i hb
      have hk := begT_kind hb
      split at h
      · exact compF_len ih hk h
      · cases h
        have := tail_len hk
        omega
    · cases h
def termsK (n : Nat) (acc : List Tm) (cur : List Tok) : PR (List Tm) := if isT cur [44] then termsGo n acc cur.tail else .ok acc cur
theorem termsGo_err {n : Nat} {acc : List Tm} {ts : List Tok} {p : Nat} {e : Int} (hn : 0 < n) (h : termF 4 ts = .err p e) : termsGo n acc ts = .err p e := by
  cases n with
  | zero => omega
  | succ n => rw [termsGo, h]
theorem termsGo_ok {n : Nat} {acc : List Tm} {ts r : List Tok} {t : Tm} (hn : 0 < n) (h : termF 4 ts = .ok t r) : termsGo n acc ts = termsK (n - 1) (acc ++ [t]) r := by
  cases n with
  | zero => omega
  | succ n => rw [termsGo, h]; rfl
theorem Rd.len {w : World} {rb tb cap : Nat} {toks ts : List Tok} {i : Nat} (h : Rd w rb tb cap toks ts i) : ts.length < 20000 ∧ 0 < ts.length := by
  have h1 := h.ts_
  have h2 := h.big
  have h3 := h.lt
  subst h1
  rw [List.length_drop]
  omega
theorem infoTerm2 : (Tryd.prog.info? 31).map (fun i => (i.zero, i.size, i.bytes)) = some (some (.agg #[.string ⟨#[]⟩, .slice none 0 0]), 2, 40) := infoTerm

set_option maxHeartbeats 8000000 in
set_option maxRecDepth 100000 in
theorem terms_any (w : World) (rb tb cap : Nat) (toks ts : List Tok) (i : Nat) (h : Rd w rb tb cap toks ts i) :
    Calls Tryd.prog 40 #[.pointer (some ⟨rb, 0, none⟩)] w (LPost TmV 2 w rb tb cap toks (termsF ts)) := by
  have HS : Hid (LSt TmV 31 2 w w rb tb cap toks (.slice none 0 0) [] ts) := ⟨⟨i, h⟩, h.rlt, h.tk.1, OwnL.nil _ _ _ _ _, grown_refl _ _⟩
  have hbig := h.len.1
  have hpos := h.len.2
  have HTK := Lib.hid (token_any h)
  clear h
  obtain ⟨i0, hi0, hz0, hz1, hz2⟩ := info_parts infoTerm2
  have HI0 := Lib.hid hi0; have HZ0 := Lib.hid hz0; have HZ1 := Lib.hid hz1; have HZ2 := Lib.hid hz2
  clear hi0 hz0 hz1 hz2
  have f0 := fld0
  go_enter Tryd.func40, Tryd.ntmps40
  cases hk0 : (hd ts).kind == 0 with
  | true =>
    have HE : Hid (termsF ts = .ok [] ts) := by unfold Hid termsF; rw [if_pos hk0]
    generalize (hd ts).kind = kd at *
    go_wp2_with fail
    refine HTK.out.mono ?_
    rintro e w4 ⟨rfl, hb4⟩
    have HL4 := Lib.hid (HS.out.below keeps_tm hb4)
    clear hb4 HTK
    go_wp2_with fail
    refine bodyPost_ret (v := .slice none 0 0) (by simp [results, Tryd.results40, go_sem]) rfl ?_
    unfold LPost
    rw [HE.out]
    obtain ⟨A', cp', he, hs, hm⟩ := HL4.out.done keeps_tm
    injection he with e1 e2 e3
    subst e1
    exact ⟨none, 0, rfl, hs, hm⟩
  | false =>
    have HE : Hid (termsF ts = termsGo ts.length [] ts) := by unfold Hid termsF; rw [if_neg (by rw [hk0]; exact Bool.false_ne_true)]
    generalize (hd ts).kind = kd at *
    go_wp2_with fail
    refine HTK.out.mono ?_
    rintro e w4 ⟨rfl, hb4⟩
    have HL4 := Lib.hid (HS.out.below keeps_tm hb4)
    clear hb4 HTK HS
    obtain ⟨i4, hr4⟩ := HL4.out.rd
    have HR4 := Lib.hid hr4
    clear hr4
    go_wp2_with fail
    (refine (term_any 4 (Nat.le_refl _) w4 rb tb cap toks ts i4 HR4.out 1 (by omega)).mono ?_)
    cases htf : termF 4 ts with
    | err p e =>
      have HT := Lib.hid (termsGo_err (acc := []) hpos htf)
      rintro e' w6 ⟨rfl, hg⟩
      refine ⟨rfl, ?_⟩
      unfold LPost
      rw [HE.out, HT.out]
      exact ⟨rfl, grown_trans HL4.out.gr hg⟩
    | ok t rest =>
      have HT := Lib.hid (termsGo_ok (acc := []) hpos htf)
      have hlen := termF_len _ _ _ _ htf
      clear htf
      rintro e' w6r ⟨x, rfl, htm, hmv⟩
      have hL6 := HL4.out.move keeps_tm hmv
      obtain ⟨nm', A', cp', a', rfl, rfl⟩ := htm.form
      obtain ⟨xs, hx1, hx2⟩ := hL6.app keeps_tm htm rfl HL4.out.gr.size (fun k hk => by cases hk)
      have HX1 := Lib.hid hx1
      have HX2 := Lib.hid hx2
      have hrow : w.heap.size ≤ w6r.heap.size := hL6.gr.size
      clear hx1 hx2 htm hmv hL6 HR4
      go_wp2_with (at_builtin; refine wpList_append_lies _ rfl _ _ _ rfl w.heap.size 31 i0 _ 2 40 Tryd.underlying29 HI0.out HZ0.out HZ1.out HZ2.out rfl (by omega) (.slice none 0 0) ([] : List Tm).length xs rfl (HX1.out.alloc _) ⟨w6r.heap.size, 0, none⟩ 1 1 [.string (bs nm'), .slice A' a'.length cp'] rfl rfl (World.news_of_block (cs := #[.string (bs nm'), .slice A' a'.length cp']) (t := 31) (fr := (0, 0)) (heap_alloc_new w6r _)) (by simp [Value.oneCell']) (by omega) (by have hnl : ([] : List Tm).length = 0 := rfl; unfold maxLen; omega) (by have hnl : ([] : List Tm).length = 0 := rfl; omega) (by simp; omega) (w6r.heap.size + 1) (by simp) ?_; intro g cp6 w6 hown6 hgrow hat hlt6; have HC6 := Lib.hid (HX2.out g cp6 w6 _ hown6 hgrow hat); clear hown6 hgrow hat hlt6)
      clear HX1 HX2 HL4
      go_loopg [3] (ts.length - 1) (fun n v wr => ∃ (acc : List Tm) (cur : List Tok), Hid (acc.length + n = ts.length ∧ cur.length ≤ n ∧ LSt TmV 31 2 w wr rb tb cap toks v acc cur ∧ termsGo ts.length [] ts = termsK n acc cur))
      case atStart => exact ⟨[.mk nm' a'], rest, by simp; omega, by omega, HC6.out, HT.out⟩
      case round =>
        obtain ⟨acc, cur, HI⟩ := hrel
        clear HC6 HT hrow
        have ha : acc.length ≤ ts.length := by have := HI.out.1; omega
        obtain ⟨A, cp, hv⟩ := HI.out.2.2.1.own.len
        subst hv
        obtain ⟨i3, hrd⟩ := HI.out.2.2.1.rd
        have HAC := Lib.hid (accept_any hrd [44])
        have HEL := Lib.hid hrd.fin
        clear hrd
        cases hc : isT cur [44] with
        | false =>
          rw [hc] at HAC
          have HB : Hid (termsK gk acc cur = .ok acc cur) := by unfold Hid termsK; rw [hc]; rfl
          clear hc
          go_wp2_with fail
          refine HAC.out.mono ?_
          rintro e w8 ⟨rfl, hm⟩
          have HL8 := Lib.hid (HI.out.2.2.1.move keeps_tm (ts' := cur) hm)
          clear hm HAC
          go_wp2_with fail
          refine bodyPost_ret (v := .slice A acc.length cp) (by simp [results, Tryd.results40, go_sem]) rfl ?_
          unfold LPost
          rw [HE.out, HI.out.2.2.2, HB.out]
          obtain ⟨A', cp', he, hs, hm⟩ := HL8.out.done keeps_tm
          injection he with e1 e2 e3
          subst e1
          exact ⟨A, cp, rfl, hs, hm⟩
        | true =>
          rw [hc] at HAC
          have HB : Hid (termsK gk acc cur = termsGo gk acc cur.tail) := by unfold Hid termsK; rw [hc]; rfl
          have hcl := tail_len (isT_kind hc)
          have hgk : cur.length ≤ gk := HI.out.2.1
          clear hc
          go_wp2_with fail
          refine HAC.out.mono ?_
          rintro e w8 ⟨rfl, hm⟩
          have HL8 := Lib.hid (HI.out.2.2.1.move keeps_tm (ts' := cur.tail) hm)
          clear hm HAC
          obtain ⟨i8, hr8⟩ := HL8.out.rd
          have HR8 := Lib.hid hr8
          clear hr8
          go_wp2_with fail
          (refine (term_any 4 (Nat.le_refl _) w8 rb tb cap toks cur.tail i8 HR8.out 1 (by omega)).mono ?_)
          cases htf : termF 4 cur.tail with
          | err p e =>
            have HT := Lib.hid (termsGo_err (acc := acc) (n := gk) (by omega) htf)
            rintro e' w6 ⟨rfl, hg⟩
            refine ⟨rfl, ?_⟩
            unfold LPost
            rw [HE.out, HI.out.2.2.2, HB.out, HT.out]
            exact ⟨rfl, grown_trans HL8.out.gr hg⟩
          | ok t rest2 =>
            have HT := Lib.hid (termsGo_ok (acc := acc) (n := gk) (by omega) htf)
            have hlen2 := termF_len _ _ _ _ htf
            clear htf
            rintro e' w6r ⟨x, rfl, htm, hmv⟩
            have hL6 := HL8.out.move keeps_tm hmv
            obtain ⟨nm2, A', cp', a2, rfl, rfl⟩ := htm.form
            obtain ⟨xs, hx1, hx2⟩ := hL6.app keeps_tm htm rfl HL8.out.gr.size (fun k hk => by have h3 := HL8.out.own; obtain ⟨_, _, _, h3, _⟩ := h3; exact (h3.lt k hk).2)
            have HX1 := Lib.hid hx1
            have HX2 := Lib.hid hx2
            have hrow : w.heap.size ≤ w6r.heap.size := hL6.gr.size
            clear hx1 hx2 htm hmv hL6 HR8
            go_wp2_with (at_builtin; refine wpList_append_lies _ rfl _ _ _ rfl w.heap.size 31 i0 _ 2 40 Tryd.underlying29 HI0.out HZ0.out HZ1.out HZ2.out rfl (by omega) (.slice A acc.length cp) acc.length xs rfl (HX1.out.alloc _) ⟨w6r.heap.size, 0, none⟩ 1 1 [.string (bs nm2), .slice A' a2.length cp'] rfl rfl (World.news_of_block (cs := #[.string (bs nm2), .slice A' a2.length cp']) (t := 31) (fr := (0, 0)) (heap_alloc_new w6r _)) (by simp [Value.oneCell']) (by omega) (by have hnl : ([] : List Tm).length = 0 := rfl; unfold maxLen; omega) (by have hnl : ([] : List Tm).length = 0 := rfl; omega) (by simp; omega) (w6r.heap.size + 1) (by simp) ?_; intro g cp6 w6 hown6 hgrow hat hlt6; have HC6 := Lib.hid (HX2.out g cp6 w6 _ hown6 hgrow hat); clear hown6 hgrow hat hlt6)
            go_roundg (gk - 1)
            case measure => omega
            case rel =>
              refine ⟨acc ++ [.mk nm2 a2], rest2, ?_, ?_, ?_, ?_⟩
              · have := HI.out.1; rw [List.length_append]; simp; omega
              · omega
              · exact HC6.out
              · rw [HI.out.2.2.2, HB.out, HT.out]

set_option maxHeartbeats 4000000 in
set_option maxRecDepth 100000 in
theorem term1_any (w : World) (rb tb cap : Nat) (toks ts : List Tok) (i : Nat) (h : Rd w rb tb cap toks ts i) :
    Calls Tryd.prog 36 #[.pointer (some ⟨rb, 0, none⟩)] w (TPost w rb tb cap toks (termF 4 ts)) := by
  have HR := Lib.hid h
  have hrw := h.rlt
  have htw := h.tk.1
  clear h
  have HR1 := Lib.hid (HR.out.below (w' := w.alloc (.cells #[.string ⟨#[]⟩, .slice none 0 0] 31)) ((Below.refl _ _).alloc (Nat.le_refl _) _))
  have HRES := Lib.hid (heap_alloc_new w (.cells #[.string ⟨#[]⟩, .slice none 0 0] 31))
  have HG := Lib.hid (World.grownBy_alloc w (.cells #[.string ⟨#[]⟩, .slice none 0 0] 31) (some rb))
  go_enter Tryd.func36, Tryd.ntmps36
  go_wp2_with fail
  generalize w.alloc (.cells #[.string ⟨#[]⟩, .slice none 0 0] 31) = w1 at *
  have hsz := heap_lt HRES.out
  (with_reducible refine (term_any 4 (Nat.le_refl _) w1 rb tb cap toks ts i HR1.out 1 (by omega)).mono ?_)
  cases hct : termF 4 ts with
  | err p e =>
    rintro e' w3 ⟨rfl, hg⟩
    refine ⟨rfl, ?_⟩
    exact ⟨rfl, grown_trans HG.out hg⟩
  | ok t rest =>
    have HT := Lib.hid hct
    clear hct
    rintro e' w3 ⟨x, rfl, htm, hmv⟩
    obtain ⟨nm', A', cp', l', rfl, rfl⟩ := htm.form
    have hr3 := (hmv.2.block w.heap.size hsz (by simp; omega)).trans HRES.out
    obtain ⟨cr0, cr1, fr0, fr1⟩ := cells_two hr3
    have HTM := Lib.hid htm
    have HMV := Lib.hid hmv
    clear htm hmv hr3
    go_wp2_with fail
    refine bodyPost_ret (v := .agg #[.string (bs nm'), .slice A' l'.length cp']) (by simp [results, Tryd.results36, go_sem, cr0, cr1]) rfl ?_
    unfold TPost
    rw [HT.out]
    have hg2 : w3.grownBy ((w3.setCell ⟨w.heap.size, 0, none⟩ (.string (bs nm'))).setCell ⟨w.heap.size, 1, none⟩ (.slice A' l'.length cp')) (some w.heap.size) := grown_trans (grown_set _ _ _ _) (grown_set _ _ _ _)
    exact ⟨[.string (bs nm'), .slice A' l'.length cp'], rfl, HTM.out.other hg2 hsz (by omega), Moved.other ⟨HMV.out.1, grown_trans HG.out HMV.out.2⟩ hg2 (Nat.le_refl _) hrw htw⟩
end Go.Proofs.YtnlphgpcpdfjhaaDoor
