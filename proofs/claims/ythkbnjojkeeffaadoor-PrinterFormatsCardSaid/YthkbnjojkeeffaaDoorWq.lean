/- ref05.Parse and ref05.Terms. -/
import Derived.Test.YthkbnjojkeeffaaDoorWz
import Derived.Test.YthkbnjojkeeffaaDoorRp
namespace Go.Proofs.YthkbnjojkeeffaaDoor
open Go Go.RowKit
set_option linter.unusedSimpArgs false

/-- the state at the head of such a loop; B: a block number between the reader's blocks and those of the list -/
structure LRt {α : Type} (R : Rdr α) (e : TypeId) (sz : Nat) (w0 : World) (B : Nat) (w : World) (rb tb cap : Nat) (toks : List Tok) (v : Value) (acc : List α) (ts : List Tok) : Prop where
  rd : ∃ i, RR w rb tb cap toks ts i 0 0
  rbl : rb < B
  tbl : tb < B
  rb0 : w0.heap.size ≤ rb
  tb0 : w0.heap.size ≤ tb
  own : OwnL R e sz w B v acc
  bl : Below w0.heap.size w0 w
  B0 : w0.heap.size ≤ B
  B1 : B ≤ w.heap.size
section
variable {α : Type} {R : Rdr α} {e : TypeId} {sz B : Nat} {w0 w w' : World} {rb tb cap : Nat} {toks : List Tok} {v : Value} {acc : List α} {ts ts' : List Tok} {p : Nat} {x : Int}
theorem LRt.move (hR : Keeps R) (s : LRt R e sz w0 B w rb tb cap toks v acc ts) (hm : RMoved w rb tb cap toks ts' w') : LRt R e sz w0 B w' rb tb cap toks v acc ts' :=
  ⟨hm.1, s.rbl, s.tbl, s.rb0, s.tb0, s.own.keep hR hm.2 (fun k hk => by injection hk with hk; subst hk; exact s.rbl), s.bl.grown hm.2 s.bl.size (fun k hk => by injection hk with hk; subst hk; exact s.rb0), s.B0, Nat.le_trans s.B1 hm.2.size⟩
theorem LRt.below (hR : Keeps R) (s : LRt R e sz w0 B w rb tb cap toks v acc ts) (hb : Below w.heap.size w w') : LRt R e sz w0 B w' rb tb cap toks v acc ts := by
  obtain ⟨i, hi⟩ := s.rd
  exact s.move hR ⟨⟨i, hi.below hb⟩, grown_of_below hb _⟩
/-- behind an error: the reader's block, the owned row -/
theorem LRt.err (hR : Keeps R) (s : LRt R e sz w0 B w rb tb cap toks v acc ts) (he : RErr w rb tb cap toks p x w') :
    RZ w' rb p x ∧ Below w0.heap.size w0 w' ∧ OwnL R e sz w' B v acc ∧ B ≤ w'.heap.size :=
  ⟨he.z, s.bl.grown he.2.2 s.bl.size (fun k hk => by injection hk with hk; subst hk; exact s.rb0), s.own.keep hR he.2.2 (fun k hk => by injection hk with hk; subst hk; exact s.rbl), Nat.le_trans s.B1 he.2.2.size⟩
theorem LRt.app (hR : Keeps R) (s : LRt R e sz w0 B w rb tb cap toks v acc ts) {C : Nat} {x : List Value} {t : α} (hx : R w (fun b => C ≤ b) x t) (hl : x.length = sz) (hC : B ≤ C) (hv : ∀ k, v.ownBlock = some k → k < C) :
    ∃ xs, w.ownsRow B e sz v acc.length xs ∧ ∀ (g cp : Nat) (w6 : World) (o : Obj), w6.ownsRow B e sz (.slice (some ⟨g, 0, none⟩) (acc.length + 1) cp) (acc.length + 1) (xs ++ x) →
      (w.alloc o).grownBy w6 v.ownBlock → (v.ownBlock = some g ∨ g = w.heap.size + 1) →
      LRt R e sz w0 B w6 rb tb cap toks (.slice (some ⟨g, 0, none⟩) (acc.length + 1) cp) (acc ++ [t]) ts := by
  obtain ⟨xs, h1, h2, h3, h4⟩ := s.own
  refine ⟨xs.flatten, h3, fun g cp w6 o hown hgrow hat => ?_⟩
  have hlt := h3.lt
  have hB1 := s.B1
  have hB0 := s.B0
  have hpush := OwnL.push hR h1 h2 h4 (hR _ _ _ _ _ _ hx (fun b hb _ => ⟨⟨by omega, fun e => by have := hv b e.symm; omega⟩, rfl⟩) (Nat.le_refl _)) hl (wA := w.alloc o) (fun b hb => Below.heap_alloc w o b hb) (by simp) hown hgrow
    (by rcases hat with hat | hat
        · exact .inl hat
        · exact .inr (by omega))
  have hne : ∀ b, b < w.heap.size → v.ownBlock ≠ some b → w6.heap[b]? = w.heap[b]? := fun b hb hn => (hgrow.block b (by simp; omega) (Ne.symm hn)).trans (Below.heap_alloc w o b hb)
  have hnr : ∀ b, b < B → v.ownBlock ≠ some b := fun b hb e => by have := (hlt b e).1; omega
  have hs6 : w.heap.size ≤ w6.heap.size := by have := hgrow.size; simp at this; omega
  have hrl := s.rbl
  have htl := s.tbl
  refine ⟨?_, s.rbl, s.tbl, s.rb0, s.tb0, hpush, ?_, s.B0, by omega⟩
  · obtain ⟨i, hi⟩ := s.rd
    exact ⟨i, hi.lt, hi.ts_, (hne rb hi.rlt (hnr rb hrl)).trans hi.blk, hi.tk.keep (hne tb hi.tk.1 (hnr tb htl)) (by omega), hi.ne, hi.big, hi.fin⟩
  · exact (s.bl.alloc s.bl.size o).grown hgrow (by have := s.bl.size; simp; omega) (fun k hk => by have := (hlt k hk).1; omega)
theorem LRt.done (hR : Keeps R) (s : LRt R e sz w0 B w rb tb cap toks v acc ts) : ∃ A cp, v = .slice A acc.length cp ∧ SlV R sz w (fun b => w0.heap.size ≤ b) A acc := by
  obtain ⟨A, cp, rfl⟩ := s.own.len
  have hB0 := s.B0
  exact ⟨A, cp, rfl, (s.own.sl hR).keep hR (fun b hb _ => ⟨by omega, rfl⟩) (Nat.le_refl _)⟩
/-- behind an error something is appended all the same -/
theorem err_app {n : Nat} {v : Value} {ys : List Value} {p x : Int} (hz : RZ w rb p x) (hb : Below w0.heap.size w0 w) (hrow : w.ownsRow B e sz v n ys) (hB0 : w0.heap.size ≤ B) (hrb : rb < B) (w6 : World) (o : Obj) (hgrow : (w.alloc o).grownBy w6 v.ownBlock) :
    RZ w6 rb p x ∧ Below w0.heap.size w0 w6 := by
  have hlt := hrow.lt
  refine ⟨(hz.below ((Below.refl _ _).alloc (Nat.le_refl _) o)).grow hgrow (fun e => by have := (hlt rb e).1; omega), ?_⟩
  exact (hb.alloc hb.size o).grown hgrow (by have := hb.size; simp; omega) (fun k hk => by have := (hlt k hk).1; omega)
theorem RR.grow {i : Nat} {a e0 : Int} (h : RR w rb tb cap toks ts i a e0) {row : Option Nat} (hg : w.grownBy w' row) (h1 : row ≠ some rb) (h2 : row ≠ some tb) : RR w' rb tb cap toks ts i a e0 :=
  ⟨h.lt, h.ts_, (hg.block _ h.rlt (Ne.symm h1)).trans h.blk, h.tk.keep (hg.block _ h.tk.1 (Ne.symm h2)) hg.size, h.ne, h.big, h.fin⟩
theorem err_rr {n : Nat} {v : Value} {ys : List Value} {p x : Int} (hr : ∃ ts i, RR w rb tb cap toks ts i p x) (hrow : w.ownsRow B e sz v n ys) (hrb : rb < B) (htb : tb < B) (w6 : World) (o : Obj) (hgrow : (w.alloc o).grownBy w6 v.ownBlock) :
    ∃ ts i, RR w6 rb tb cap toks ts i p x := by
  have hlt := hrow.lt
  obtain ⟨ts, i, hr⟩ := hr
  exact ⟨ts, i, (hr.below ((Below.refl _ _).alloc (Nat.le_refl _) o)).grow hgrow (fun e => by have := (hlt rb e).1; omega) (fun e => by have := (hlt tb e).1; omega)⟩

end

/-- the loop of ref05.Parse -/
def PRel (w0 : World) (rb : Nat) (res : Rs (List Ru)) (n : Nat) (v : Value) (wr : World) : Prop :=
  (∃ (tb cap : Nat) (toks : List Tok) (B : Nat) (acc : List Ru) (cur : List Tok), acc.length + n = 129 ∧ acc.length ≤ 128 ∧ LRt RuV 27 3 w0 B wr rb tb cap toks v acc cur ∧ res = endF (rulesF n acc cur)) ∨
  (∃ (p : Nat) (x : Int), RZ wr rb p x ∧ Below w0.heap.size w0 wr ∧ res = .err p x)
/-- the loop of ref05.Terms -/
def TRel (w0 : World) (rb : Nat) (res : Rs (List Tm)) (n : Nat) (v : Value) (m : Bool) (wr : World) : Prop :=
  (∃ (tb cap : Nat) (toks : List Tok) (B : Nat) (acc : List Tm) (cur : List Tok), acc.length + n ≤ 20000 ∧ (m = true → cur.length ≤ n) ∧ LRt TmV 24 2 w0 B wr rb tb cap toks v acc cur ∧ res = endF (if m then termsGo n acc cur else .ok acc cur)) ∨
  (∃ (p : Nat) (x : Int), RZ wr rb p x ∧ Below w0.heap.size w0 wr ∧ res = .err p x)

set_option maxHeartbeats 8000000 in
set_option maxRecDepth 100000 in
theorem refparse_any (w : World) (s : ByteArray) (hs : s.size ≤ 9223372036854775807) :
    Calls Tryd.prog 43 #[.string s] w (OutP (VL RuV 3) (.slice none 0 0) w (parseF s.data.toList)) := by
  obtain ⟨i0, hi0, hz0, hz1, hz2⟩ := info_parts infoRule
  have HI0 := Lib.hid hi0; have HZ0 := Lib.hid hz0; have HZ1 := Lib.hid hz1; have HZ2 := Lib.hid hz2
  clear hi0 hz0 hz1 hz2
  go_enter Tryd.func43, Tryd.ntmps43
  go_wp2_with fail
  refine (rbegin_any w s hs).mono ?_
  rintro e w1 ⟨hb, rb, rfl, hrb, hc⟩
  have HS : Hid (PRel w rb (parseF s.data.toList) 129 (.slice none 0 0) w1) := by
    cases hlx : lexF s.data.toList with
    | err p x =>
      rw [hlx] at hc
      exact .inr ⟨p, x, hc, hb, by unfold parseF readF; rw [hlx]⟩
    | ok ts =>
      rw [hlx] at hc
      obtain ⟨tb, cap, hr, htb⟩ := hc
      exact .inl ⟨tb, cap, ts, w1.heap.size, [], ts, rfl, by simp, ⟨⟨0, hr⟩, hr.rlt, hr.tk.1, hrb, htb, OwnL.nil _ _ _ _ _, hb, hb.size, Nat.le_refl _⟩, by unfold parseF readF; rw [hlx]⟩
  clear hb hc
  go_wp2_with fail
  go_loopg [6] 129 (fun n v wr => Hid (PRel w rb (parseF s.data.toList) n v wr) ∧ ∃ A n1 cp1, v = .slice A n1 cp1)
  case atStart => exact ⟨HS.out, _, _, _, rfl⟩
  case round =>
    clear HS
    obtain ⟨hrel, A, n1, cp, rfl⟩ := hrel
    rcases hrel.out with ⟨tb, cap, toks, B, acc, cur, hi1, hi2, hi3, hi4⟩ | ⟨p, x, hz, hb, hq⟩
    rotate_left
    · have HQ := Lib.hid hq
      have HB := Lib.hid hb
      obtain ⟨k2, k3, k0, k1, kl⟩ := hz.facts
      clear hrel hq hb hz
      go_wp2_with fail
      go_region
      go_wp2_with fail
      go_region
      go_wp2_with fail
      refine bodyPost_ret (v := .tuple #[.slice none 0 0, .int .i64 p, .int .i64 x]) (by simp [results, Tryd.results43, go_sem]) rfl ?_
      unfold OutP
      rw [HQ.out]
      exact ⟨HB.out.drew.drew, rfl⟩
    have HI := Lib.hid (And.intro hi1 (And.intro hi2 (And.intro hi3 hi4)))
    clear hrel hi1 hi2 hi3 hi4
    obtain ⟨A', cp', he⟩ := HI.out.2.2.1.own.len
    injection he with e1 e2 e3
    subst e1; subst e2; subst e3
    obtain ⟨i3, hrd⟩ := HI.out.2.2.1.rd
    have ha : (acc.length : Int) ≤ 128 := by have := HI.out.2.1; omega
    have HE := Lib.hid (And.intro HI.out.1 (And.intro HI.out.2.1 HI.out.2.2.2))
    have hn0 : 0 < gk := by have := HI.out.1; have := HI.out.2.1; omega
    obtain ⟨c0, c1, _, c3, _, _, _⟩ := hrd.facts
    have hi : (i3 : Int) < (toks.length : Int) := by have := hrd.lt; omega
    have hi0 : (0 : Int) ≤ (i3 : Int) := by omega
    obtain ⟨t0, _, _⟩ := hrd.tk.2 i3 _ hrd.hd
    clear hrd
    cases hk0 : (hd cur).kind == 0 with
    | true =>
      have HQ : Hid (parseF s.data.toList = .ok acc) := by unfold Hid; rw [HI.out.2.2.2, rulesF_end hn0 hk0]; unfold endF; simp only []; rw [if_pos hk0]
      have hk1 : ((hd cur).kind != 0) = false := by rw [bne, hk0]; rfl
      generalize (hd cur).kind = kd at *
      go_wp2_with fail
      go_region
      go_wp2_with fail
      refine bodyPost_ret (v := .tuple #[.slice A acc.length cp, .int .i64 0, .int .i64 0]) (by simp [results, Tryd.results43, go_sem]) rfl ?_
      unfold OutP
      rw [HQ.out]
      have HL := HI.out.2.2.1.below (w' := wr.drew) keeps_ru (Below.refl _ _).drew
      obtain ⟨A', cp', he, hs⟩ := HL.done keeps_ru
      injection he with e1 e2 e3
      subst e1
      exact ⟨HL.bl, _, rfl, A, cp, rfl, hs⟩
    | false =>
      have hk1 : ((hd cur).kind != 0) = true := by rw [bne, hk0]; rfl
      have HK0 := Lib.hid hk0
      cases h128 : ((acc.length : Int) == 128)
      all_goals
        have h128n : (acc.length == 128) = ((acc.length : Int) == 128) := by
          cases hh : acc.length == 128 with
          | true => rw [beq_iff_eq] at hh; exact (beq_iff_eq.2 (by omega)).symm
          | false => rw [beq_eq_false_iff_ne] at hh; exact (beq_eq_false_iff_ne.2 (by omega)).symm
        rw [h128] at h128n
        have HN := Lib.hid h128n
        clear h128n
      -- not the last: on to the rule
      focus
        have H4 : Hid ((acc.length == 128 && (hd cur).kind == 1) = false) := by unfold Hid; rw [HN.out]; rfl
        generalize hkd : (hd cur).kind = kd at *
        have HKD := Lib.hid hkd
        clear hkd
        go_wp2_with fail
        go_region
        go_wp2_with fail
        go_region
        have HL4 := Lib.hid (HI.out.2.2.1.below (w' := wr.drew.drew) keeps_ru (Below.refl _ _).drew.drew)
        clear c0 c1 c3 t0
        go_wp2_with fail
      rotate_left
      focus
        cases k1 : (hd cur).kind == 1
        focus
          have H4 : Hid ((acc.length == 128 && (hd cur).kind == 1) = false) := by unfold Hid; rw [HN.out, k1]; rfl
          generalize hkd : (hd cur).kind = kd at *
          have HKD := Lib.hid hkd
          clear hkd
          go_wp2_with fail
          go_region
          go_wp2_with fail
          go_region
          have HL4 := Lib.hid (HI.out.2.2.1.below (w' := wr.drew.drew) keeps_ru (Below.refl _ _).drew.drew)
          clear c0 c1 c3 t0
          go_wp2_with fail
        rotate_left
        focus
          have HQ : Hid (parseF s.data.toList = .err (hd cur).pos 2) := by unfold Hid; rw [HI.out.2.2.2, rulesF_full hn0 hk0 (by rw [HN.out, k1]; rfl)]; rfl
          generalize hkd : (hd cur).kind = kd at *
          have HKD := Lib.hid hkd
          clear hkd
          go_wp2_with fail
          go_region
          go_wp2_with fail
          go_region
          have HL4 := Lib.hid (HI.out.2.2.1.below (w' := wr.drew.drew) keeps_ru (Below.refl _ _).drew.drew)
          clear c0 c1 c3 t0
          go_wp2_with fail
          generalize wr.drew.drew = w4 at *
          obtain ⟨i4, hr4⟩ := HL4.out.rd
          refine (rfail_ok hr4 2 (by decide)).mono ?_
          rintro e w5 ⟨rfl, he5⟩
          generalize (hd cur).pos = p at *
          have HZ := Lib.hid (HL4.out.err keeps_ru he5)
          clear he5 hr4
          obtain ⟨k2, k3, k0, kx, kl⟩ := HZ.out.1.facts
          go_wp2_with fail
          go_region
          go_wp2_with fail
          refine bodyPost_ret (v := .tuple #[.slice none 0 0, .int .i64 p, .int .i64 2]) (by simp [results, Tryd.results43, go_sem]) rfl ?_
          unfold OutP
          rw [HQ.out]
          exact ⟨HZ.out.2.1.drew, rfl⟩
      all_goals
        clear HI
        generalize wr.drew.drew = w4 at *
        obtain ⟨i4, hr4⟩ := HL4.out.rd
        refine (rrule_any w4 rb tb cap toks cur i4 hr4).mono ?_
        clear hr4
        have hrow4 := HL4.out.B1
        cases hru : ruleF cur with
        | err p e =>
          have HQ : Hid (parseF s.data.toList = .err p e) := by unfold Hid; rw [HE.out.2.2, rulesF_err hn0 (by rw [HKD.out]; exact hk0) (by rw [HKD.out]; exact H4.out) hru]; rfl
          clear hru
          rintro e' w6r ⟨nm', A', n', cp', A2, n2, cp2, rfl, he6⟩
          have HZ := Lib.hid (HL4.out.err keeps_ru he6)
          clear he6
          obtain ⟨xs, hx1, _⟩ := HZ.out.2.2.1.row
          have HX1 := Lib.hid hx1
          have hrow : B ≤ w6r.heap.size := HZ.out.2.2.2
          have HB := Lib.hid (And.intro HL4.out.B0 HL4.out.rbl)
          clear hx1 HL4
          go_wp2_with (at_builtin; refine wpList_append_lies _ rfl _ _ _ rfl B 27 i0 _ 3 64 Tryd.underlying37 HI0.out HZ0.out HZ1.out HZ2.out rfl (by omega) (.slice A acc.length cp) acc.length xs rfl (HX1.out.alloc _) ⟨w6r.heap.size, 0, none⟩ 1 1 [.string nm', .slice A' n' cp', .slice A2 n2 cp2] rfl rfl (World.news_of_block (cs := #[.string nm', .slice A' n' cp', .slice A2 n2 cp2]) (t := 27) (fr := (0, 0)) (heap_alloc_new w6r _)) (by simp [Value.oneCell']) (by omega) (by unfold maxLen; omega) (by omega) (by simp; omega) (w6r.heap.size + 1) (by simp) ?_; intro g cp6 w6 hown6 hgrow hat hlt6; have HC6 := Lib.hid (err_app HZ.out.1 HZ.out.2.1 HX1.out HB.out.1 HB.out.2 w6 _ hgrow); clear hown6 hgrow hat hlt6)
          go_roundg (gk - 1)
          case measure => omega
          case rel => exact ⟨.inr ⟨p, e, HC6.out.1, HC6.out.2, HQ.out⟩, _, _, _, rfl⟩
        | ok r' rest =>
          have HNE : Hid (acc.length ≠ 128) := fun e128 => by
            have hh := H4.out
            rw [e128, ← HKD.out, ruleF_kind hru] at hh
            cases hh
          have HQ : Hid (parseF s.data.toList = endF (rulesF (gk - 1) (acc ++ [r']) rest)) := by unfold Hid; rw [HE.out.2.2, rulesF_ok hn0 (by rw [HKD.out]; exact hk0) (by rw [HKD.out]; exact H4.out) hru]
          clear hru
          rintro e' w6r ⟨x, rfl, hru, hmv⟩
          have hL6 := HL4.out.move keeps_ru hmv
          obtain ⟨nm', A', cp', a', A2, cp2, rfl, _⟩ := hru.form
          obtain ⟨xs, hx1, hx2⟩ := hL6.app keeps_ru hru rfl HL4.out.B1 (fun k hk => by have h3 := HL4.out.own; obtain ⟨_, _, _, h3, _⟩ := h3; exact (h3.lt k hk).2)
          have HX1 := Lib.hid hx1
          have HX2 := Lib.hid hx2
          have hrow : B ≤ w6r.heap.size := hL6.B1
          clear hx1 hx2 hru hmv hL6 HL4
          go_wp2_with (at_builtin; refine wpList_append_lies _ rfl _ _ _ rfl B 27 i0 _ 3 64 Tryd.underlying37 HI0.out HZ0.out HZ1.out HZ2.out rfl (by omega) (.slice A acc.length cp) acc.length xs rfl (HX1.out.alloc _) ⟨w6r.heap.size, 0, none⟩ 1 1 [.string (bs nm'), .slice A' a'.length cp', .slice A2 r'.body.length cp2] rfl rfl (World.news_of_block (cs := #[.string (bs nm'), .slice A' a'.length cp', .slice A2 r'.body.length cp2]) (t := 27) (fr := (0, 0)) (heap_alloc_new w6r _)) (by simp [Value.oneCell']) (by omega) (by unfold maxLen; omega) (by omega) (by simp; omega) (w6r.heap.size + 1) (by simp) ?_; intro g cp6 w6 hown6 hgrow hat hlt6; have HC6 := Lib.hid (HX2.out g cp6 w6 _ hown6 hgrow hat); clear hown6 hgrow hat hlt6)
          go_roundg (gk - 1)
          case measure => omega
          case rel =>
            refine ⟨.inl ⟨tb, cap, toks, B, acc ++ [r'], rest, ?_, ?_, HC6.out, HQ.out⟩, _, _, _, rfl⟩
            · have := HE.out.1; rw [List.length_append]; simp; omega
            · have := HE.out.2.1; have := HNE.out; rw [List.length_append]; simp; omega

end Go.Proofs.YthkbnjojkeeffaaDoor
