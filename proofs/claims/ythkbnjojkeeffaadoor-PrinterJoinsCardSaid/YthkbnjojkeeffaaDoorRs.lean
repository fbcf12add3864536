/- The walks of (*parser.reader).rules and .terms. -/
import Derived.Test.YthkbnjojkeeffaaDoorXe
namespace Go.Proofs.YthkbnjojkeeffaaDoor
open Go Go.RowKit
set_option linter.unusedSimpArgs false

/-- what reading a list leaves -/
def LPost {α : Type} (R : Rdr α) (sz : Nat) (w : World) (rb tb cap : Nat) (toks : List Tok) (r : PR (List α)) (e : Ending) (w' : World) : Prop :=
  match r with
  | .ok l rest => ∃ A cp, e = .returned (.slice A l.length cp) ∧ SlV R sz w' (fun b => w.heap.size ≤ b) A l ∧ Moved w rb tb cap toks rest w'
  | .err p k => e = Viol p k ∧ w.grownBy w' (some rb)

/-- the state at the head of such a loop -/
structure LSt {α : Type} (R : Rdr α) (e : TypeId) (sz : Nat) (w0 w : World) (rb tb cap : Nat) (toks : List Tok) (v : Value) (acc : List α) (ts : List Tok) : Prop where
  rd : ∃ i, Rd w rb tb cap toks ts i
  rbl : rb < w0.heap.size
  tbl : tb < w0.heap.size
  own : OwnL R e sz w w0.heap.size v acc
  gr : w0.grownBy w (some rb)

section
variable {α : Type} {R : Rdr α} {e : TypeId} {sz : Nat} {w0 w w' : World} {rb tb cap : Nat} {toks : List Tok} {v : Value} {acc : List α} {ts ts' : List Tok}
theorem LSt.move (hR : Keeps R) (s : LSt R e sz w0 w rb tb cap toks v acc ts) (hm : Moved w rb tb cap toks ts' w') : LSt R e sz w0 w' rb tb cap toks v acc ts' :=
  ⟨hm.1, s.rbl, s.tbl, s.own.keep hR hm.2 (fun k hk => by injection hk with hk; subst hk; exact s.rbl), grown_trans s.gr hm.2⟩
theorem LSt.below (hR : Keeps R) (s : LSt R e sz w0 w rb tb cap toks v acc ts) (hb : Below w.heap.size w w') : LSt R e sz w0 w' rb tb cap toks v acc ts := by
  obtain ⟨i, hi⟩ := s.rd
  exact s.move hR ⟨⟨i, hi.below hb⟩, grown_of_below hb _⟩
theorem LSt.app (hR : Keeps R) (s : LSt R e sz w0 w rb tb cap toks v acc ts) {B : Nat} {x : List Value} {t : α} (hx : R w (fun b => B ≤ b) x t) (hl : x.length = sz) (hB : w0.heap.size ≤ B) (hv : ∀ k, v.ownBlock = some k → k < B) :
    ∃ xs, w.ownsRow w0.heap.size e sz v acc.length xs ∧ ∀ (g cp : Nat) (w6 : World) (o : Obj), w6.ownsRow w0.heap.size e sz (.slice (some ⟨g, 0, none⟩) (acc.length + 1) cp) (acc.length + 1) (xs ++ x) →
      (w.alloc o).grownBy w6 v.ownBlock → (v.ownBlock = some g ∨ g = w.heap.size + 1) →
      LSt R e sz w0 w6 rb tb cap toks (.slice (some ⟨g, 0, none⟩) (acc.length + 1) cp) (acc ++ [t]) ts := by
  obtain ⟨xs, h1, h2, h3, h4⟩ := s.own
  refine ⟨xs.flatten, h3, fun g cp w6 o hown hgrow hat => ?_⟩
  have hlt := h3.lt
  have hpush := OwnL.push hR h1 h2 h4 (hR _ _ _ _ _ _ hx (fun b hb _ => ⟨⟨by omega, fun e => by have := hv b e.symm; omega⟩, rfl⟩) (Nat.le_refl _)) hl (wA := w.alloc o) (fun b hb => Below.heap_alloc w o b hb) (by simp) hown hgrow
    (by rcases hat with hat | hat
        · exact .inl hat
        · exact .inr (by omega))
  have hne : ∀ b, b < w.heap.size → v.ownBlock ≠ some b → w6.heap[b]? = w.heap[b]? := fun b hb hn => (hgrow.block b (by simp; omega) (Ne.symm hn)).trans (Below.heap_alloc w o b hb)
  have hnr : ∀ b, b < w0.heap.size → v.ownBlock ≠ some b := fun b hb e => by have := (hlt b e).1; omega
  have hs6 : w.heap.size ≤ w6.heap.size := by have := hgrow.size; simp at this; omega
  have hrl := s.rbl
  have htl := s.tbl
  refine ⟨?_, s.rbl, s.tbl, hpush, ?_⟩
  · obtain ⟨i, hi⟩ := s.rd
    exact ⟨i, hi.lt, hi.ts_, (hne rb hi.rlt (hnr rb hrl)).trans hi.blk, hi.tk.keep (hne tb hi.tk.1 (hnr tb htl)) (by omega), hi.ne, hi.big, hi.fin⟩
  · have hg := s.gr
    refine ⟨hgrow.os.trans hg.os, hgrow.tape.trans hg.tape, hgrow.output.trans hg.output, by have := hg.size; omega, fun k hk hne2 => ?_⟩
    rw [hne k (by have := hg.size; omega) (hnr k hk)]
    exact hg.block k hk hne2
theorem LSt.done (hR : Keeps R) (s : LSt R e sz w0 w rb tb cap toks v acc ts) : ∃ A cp, v = .slice A acc.length cp ∧ SlV R sz w (fun b => w0.heap.size ≤ b) A acc ∧ Moved w0 rb tb cap toks ts w := by
  obtain ⟨A, cp, rfl⟩ := s.own.len
  exact ⟨A, cp, rfl, s.own.sl hR, s.rd, s.gr⟩
end
theorem RuV.form {w : World} {P : Nat → Prop} {x : List Value} {r : Ru} (h : RuV w P x r) : ∃ nm A cap a A2 cap2, x = [.string (bs nm), .slice A a.length cap, .slice A2 r.body.length cap2] ∧ r.head = .mk nm a := by
  obtain ⟨y, A2, cap2, rfl, h, h2⟩ := h
  obtain ⟨nm, A, cap, a, rfl, he⟩ := h.form
  exact ⟨nm, A, cap, a, A2, cap2, rfl, he⟩

theorem rulesF_end {n : Nat} {acc : List Ru} {ts : List Tok} (hn : 0 < n) (h : ((hd ts).kind == 0) = true) : rulesF n acc ts = .ok acc ts := by
  cases n with
  | zero => omega
  | succ n => rw [rulesF, if_pos h]
theorem rulesF_full {n : Nat} {acc : List Ru} {ts : List Tok} (hn : 0 < n) (h : ((hd ts).kind == 0) = false) (h2 : (acc.length == 128 && (hd ts).kind == 1) = true) : rulesF n acc ts = failT ts 2 := by
  cases n with
  | zero => omega
  | succ n => rw [rulesF, if_neg (by rw [h]; exact Bool.false_ne_true), if_pos h2]
theorem rulesF_err {n : Nat} {acc : List Ru} {ts : List Tok} {p : Nat} {e : Int} (hn : 0 < n) (h : ((hd ts).kind == 0) = false) (h2 : (acc.length == 128 && (hd ts).kind == 1) = false) (h3 : ruleF ts = .err p e) : rulesF n acc ts = .err p e := by
  cases n with
  | zero => omega
  | succ n => rw [rulesF, if_neg (by rw [h]; exact Bool.false_ne_true), if_neg (by rw [h2]; exact Bool.false_ne_true), h3]
theorem rulesF_ok {n : Nat} {acc : List Ru} {ts r : List Tok} {x : Ru} (hn : 0 < n) (h : ((hd ts).kind == 0) = false) (h2 : (acc.length == 128 && (hd ts).kind == 1) = false) (h3 : ruleF ts = .ok x r) : rulesF n acc ts = rulesF (n - 1) (acc ++ [x]) r := by
  cases n with
  | zero => omega
  | succ n => rw [rulesF, if_neg (by rw [h]; exact Bool.false_ne_true), if_neg (by rw [h2]; exact Bool.false_ne_true), h3]; rfl
theorem ruleF_kind {ts r : List Tok} {x : Ru} (h : ruleF ts = .ok x r) : ((hd ts).kind == 1) = true := by
  cases hk : (hd ts).kind == 1 with
  | true => rfl
  | false =>
    unfold ruleF atomF at h
    rw [hk] at h
    simp only [Bool.false_eq_true, if_false, failT] at h
    cases h

set_option maxHeartbeats 8000000 in
set_option maxRecDepth 100000 in
theorem rules_any (w : World) (rb tb cap : Nat) (toks ts : List Tok) (i : Nat) (h : Rd w rb tb cap toks ts i) :
    Calls Tryd.prog 45 #[.pointer (some ⟨rb, 0, none⟩)] w (LPost RuV 3 w rb tb cap toks (rulesF 129 [] ts)) := by
  have HS : Hid (LSt RuV 27 3 w w rb tb cap toks (.slice none 0 0) [] ts) := ⟨⟨i, h⟩, h.rlt, h.tk.1, OwnL.nil _ _ _ _ _, grown_refl _ _⟩
  clear h
  obtain ⟨i0, hi0, hz0, hz1, hz2⟩ := info_parts infoRule
  have HI0 := Lib.hid hi0; have HZ0 := Lib.hid hz0; have HZ1 := Lib.hid hz1; have HZ2 := Lib.hid hz2
  clear hi0 hz0 hz1 hz2
  have f0 := fld0
  go_enter Tryd.func45, Tryd.ntmps45
  go_wp2_with fail
  go_loopg [3] 129 (fun n v wr => ∃ (acc : List Ru) (cur : List Tok), Hid (acc.length + n = 129 ∧ acc.length ≤ 128 ∧ LSt RuV 27 3 w wr rb tb cap toks v acc cur ∧ rulesF 129 [] ts = rulesF n acc cur))
  case atStart => exact ⟨[], ts, rfl, by simp, HS.out, rfl⟩
  case round =>
    obtain ⟨acc, cur, HI⟩ := hrel
    clear HS
    have hn0 : 0 < gk := by have := HI.out.1; have := HI.out.2.1; omega
    have ha : (acc.length : Int) ≤ 128 := by have := HI.out.2.1; omega
    have hrl := HI.out.2.2.1.rbl
    obtain ⟨A, cp, hv⟩ := HI.out.2.2.1.own.len
    subst hv
    obtain ⟨i3, hrd⟩ := HI.out.2.2.1.rd
    have HTK := Lib.hid (token_any hrd)
    clear hrd
    cases hk0 : (hd cur).kind == 0 with
    | true =>
      have HE : Hid (rulesF 129 [] ts = .ok acc cur) := by unfold Hid; rw [HI.out.2.2.2]; exact rulesF_end hn0 hk0
      generalize (hd cur).kind = kd at *
      go_wp2_with fail
      refine HTK.out.mono ?_
      rintro e w4 ⟨rfl, hb4⟩
      have HL4 := Lib.hid (HI.out.2.2.1.below keeps_ru hb4)
      clear hb4 HTK
      go_wp2_with fail
      refine bodyPost_ret (v := .slice A acc.length cp) (by simp [results, Tryd.results45, go_sem]) rfl ?_
      unfold LPost
      rw [HE.out]
      obtain ⟨A', cp', he, hs, hm⟩ := HL4.out.done keeps_ru
      injection he with e1 e2 e3
      subst e1
      exact ⟨A, cp, rfl, hs, hm⟩
    | false =>
      have HK0 := Lib.hid hk0
      cases h128 : ((acc.length : Int) == 128) with
      | true =>
        have h128n : (acc.length == 128) = true := beq_iff_eq.2 (by have := beq_iff_eq.1 h128; omega)
        cases k1 : (hd cur).kind == 1 with
        | true =>
          have HE : Hid (rulesF 129 [] ts = failT cur 2) := by unfold Hid; rw [HI.out.2.2.2]; exact rulesF_full hn0 hk0 (by rw [h128n, k1]; rfl)
          clear HK0 h128n
          generalize hkd : (hd cur).kind = kd at *
          have HKD := Lib.hid hkd
          clear hkd
          go_wp2_with fail
          refine HTK.out.mono ?_
          rintro e w4 ⟨rfl, hb4⟩
          have HL4 := Lib.hid (HI.out.2.2.1.below keeps_ru hb4)
          clear hb4 HTK
          obtain ⟨i4, hr4⟩ := HL4.out.rd
          have HTK := Lib.hid (token_any hr4)
          rw [HKD.out] at HTK
          clear hr4
          go_wp2_with fail
          refine HTK.out.mono ?_
          rintro e w5 ⟨rfl, hb5⟩
          have HL5 := Lib.hid (HL4.out.below keeps_ru hb5)
          clear hb5 HTK HL4
          obtain ⟨i5, hr5⟩ := HL5.out.rd
          have HR5 := Lib.hid hr5
          clear hr5
          go_wp2_with fail
          refine (fail_any HR5.out 2).mono ?_
          rintro e w6 ⟨rfl, hb6⟩
          refine ⟨rfl, ?_⟩
          unfold LPost
          rw [HE.out]
          exact ⟨rfl, grown_trans HL5.out.gr (grown_of_below hb6 _)⟩
        | false =>
          cases hru : ruleF cur with
          | ok x r => rw [ruleF_kind hru] at k1; cases k1
          | err p e =>
            have HE : Hid (rulesF 129 [] ts = .err p e) := by unfold Hid; rw [HI.out.2.2.2]; exact rulesF_err hn0 hk0 (by rw [h128n, k1]; rfl) hru
            have HRU := Lib.hid hru
            clear HK0 h128n hru
            generalize hkd : (hd cur).kind = kd at *
            have HKD := Lib.hid hkd
            clear hkd
            go_wp2_with fail
            refine HTK.out.mono ?_
            rintro e w4 ⟨rfl, hb4⟩
            have HL4 := Lib.hid (HI.out.2.2.1.below keeps_ru hb4)
            clear hb4 HTK
            obtain ⟨i4, hr4⟩ := HL4.out.rd
            have HTK := Lib.hid (token_any hr4)
            rw [HKD.out] at HTK
            clear hr4
            go_wp2_with fail
            refine HTK.out.mono ?_
            rintro e w5 ⟨rfl, hb5⟩
            have HL5 := Lib.hid (HL4.out.below keeps_ru hb5)
            clear hb5 HTK HL4
            obtain ⟨i5, hr5⟩ := HL5.out.rd
            have HR5 := Lib.hid hr5
            clear hr5
            go_wp2_with fail
            refine (rule_any w5 rb tb cap toks cur i5 HR5.out).mono ?_
            rw [HRU.out]
            rintro e' w6 ⟨rfl, hg⟩
            refine ⟨rfl, ?_⟩
            unfold LPost
            rw [HE.out]
            exact ⟨rfl, grown_trans HL5.out.gr hg⟩
      | false =>
        have h128n : (acc.length == 128) = false := beq_eq_false_iff_ne.2 (by have := beq_eq_false_iff_ne.1 h128; omega)
        have HNE : Hid (acc.length ≠ 128) := beq_eq_false_iff_ne.1 h128n
        generalize hkd : (hd cur).kind = kd at *
        have HKD := Lib.hid hkd
        clear hkd
        go_wp2_with fail
        refine HTK.out.mono ?_
        rintro e w4 ⟨rfl, hb4⟩
        have HL4 := Lib.hid (HI.out.2.2.1.below keeps_ru hb4)
        clear hb4 HTK
        obtain ⟨i4, hr4⟩ := HL4.out.rd
        have HR4 := Lib.hid hr4
        clear hr4
        go_wp2_with fail
        refine (rule_any w4 rb tb cap toks cur i4 HR4.out).mono ?_
        cases hru : ruleF cur with
        | err p e =>
          have HE : Hid (rulesF 129 [] ts = .err p e) := by unfold Hid; rw [HI.out.2.2.2]; exact rulesF_err hn0 (by rw [HKD.out]; exact hk0) (by rw [h128n]; rfl) hru
          rintro e' w6 ⟨rfl, hg⟩
          refine ⟨rfl, ?_⟩
          unfold LPost
          rw [HE.out]
          exact ⟨rfl, grown_trans HL4.out.gr hg⟩
        | ok r' rest =>
          have HE : Hid (rulesF 129 [] ts = rulesF (gk - 1) (acc ++ [r']) rest) := by unfold Hid; rw [HI.out.2.2.2]; exact rulesF_ok hn0 (by rw [HKD.out]; exact hk0) (by rw [h128n]; rfl) hru
          clear hru
          rintro e' w6r ⟨x, rfl, hru, hmv⟩
          have hL6 := HL4.out.move keeps_ru hmv
          obtain ⟨nm', A', cp', a', A2, cap2, rfl, _⟩ := hru.form
          obtain ⟨xs, hx1, hx2⟩ := hL6.app keeps_ru hru rfl HL4.out.gr.size (fun k hk => by have h3 := HL4.out.own; obtain ⟨_, _, _, h3, _⟩ := h3; exact (h3.lt k hk).2)
          have HX1 := Lib.hid hx1
          have HX2 := Lib.hid hx2
          have hrow : w.heap.size ≤ w6r.heap.size := hL6.gr.size
          clear hx1 hx2 hru hmv hL6 HR4
          go_wp2_with (at_builtin; refine wpList_append_lies _ rfl _ _ _ rfl w.heap.size 27 i0 _ 3 64 Tryd.underlying37 HI0.out HZ0.out HZ1.out HZ2.out rfl (by omega) (.slice A acc.length cp) acc.length xs rfl (HX1.out.alloc _) ⟨w6r.heap.size, 0, none⟩ 1 1 [.string (bs nm'), .slice A' a'.length cp', .slice A2 r'.body.length cap2] rfl rfl (World.news_of_block (cs := #[.string (bs nm'), .slice A' a'.length cp', .slice A2 r'.body.length cap2]) (t := 27) (fr := (0, 0)) (heap_alloc_new w6r _)) (by simp [Value.oneCell']) (by omega) (by have hnl : ([] : List Tm).length = 0 := rfl; unfold maxLen; omega) (by have hnl : ([] : List Tm).length = 0 := rfl; omega) (by simp; omega) (w6r.heap.size + 1) (by simp) ?_; intro g cp6 w6 hown6 hgrow hat hlt6; have HC6 := Lib.hid (HX2.out g cp6 w6 _ hown6 hgrow hat); clear hown6 hgrow hat hlt6)
          go_roundg (gk - 1)
          case measure => omega
          case rel =>
            refine ⟨acc ++ [r'], rest, ?_, ?_, ?_, HE.out⟩
            · have := HI.out.1; rw [List.length_append]; simp; omega
            · have := HI.out.2.1; have := HNE.out; rw [List.length_append]; simp; omega
            · exact HC6.out
end Go.Proofs.YthkbnjojkeeffaaDoor
