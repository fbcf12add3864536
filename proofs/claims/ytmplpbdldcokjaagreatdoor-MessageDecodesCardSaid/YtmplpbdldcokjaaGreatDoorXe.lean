/- Merged texts: The walks of (*parser.reader).atom and .literal. The walk of (*parser.reader).rule: its state. The walk of (*parser.reader).rule. The walks of (*parser.reader).rules and .terms. The walks of (*parser.reader).terms and parser.Term$1. -/
import Derived.Test.YtmplpbdldcokjaaGreatDoorXd
namespace Go.Proofs.YtmplpbdldcokjaaGreatDoor
/- The walks of (*parser.reader).atom and .literal. -/
section
open Go Go.RowKit
set_option linter.unusedSimpArgs false

/-- what reading a value of some cells leaves -/
def RPost {α : Type} (R : Rdr α) (w : World) (rb tb cap : Nat) (toks : List Tok) (r : PR α) (e : Ending) (w' : World) : Prop :=
  match r with
  | .ok t rest => ∃ x : List Value, e = .returned (.agg x.toArray) ∧ R w' (fun b => w.heap.size ≤ b) x t ∧ Moved w rb tb cap toks rest w'
  | .err p k => e = Viol p k ∧ w.grownBy w' (some rb)

theorem litF_full {o : Nat} {ts : List Tok} (h : (o == 8 && (isT ts [110, 111, 116] || (hd ts).kind == 1)) = true) : litF o ts = failT ts 2 := by
  unfold litF; rw [if_pos h]
theorem litF_go {o : Nat} {ts : List Tok} (h : (o == 8 && (isT ts [110, 111, 116] || (hd ts).kind == 1)) = false) :
    litF o ts = match atomF (if isT ts [110, 111, 116] then ts.tail else ts) with | .err p e => .err p e | .ok t r => .ok ⟨isT ts [110, 111, 116], t⟩ r := by
  unfold litF
  rw [if_neg (by rw [h]; exact Bool.false_ne_true)]
  cases isT ts [110, 111, 116] <;> rfl
theorem cells_three {w : World} {b : Nat} {x y z : Value} {t : TypeId} (h : w.heap[b]? = some (.cells #[x, y, z] t (0, 0))) :
    w.cell? ⟨b, 0, none⟩ = some x ∧ w.cell? ⟨b, 1, none⟩ = some y ∧ w.cell? ⟨b, 2, none⟩ = some z ∧ w.frozen? ⟨b, 0, none⟩ = false ∧ w.frozen? ⟨b, 1, none⟩ = false ∧ w.frozen? ⟨b, 2, none⟩ = false := by
  refine ⟨?_, ?_, ?_, ?_, ?_, ?_⟩
  · rw [cell_of_row w b 0 _ _ _ h]; rfl
  · rw [cell_of_row w b 1 _ _ _ h]; rfl
  · rw [cell_of_row w b 2 _ _ _ h]; rfl
  · simp [World.frozen?, h]
  · simp [World.frozen?, h]
  · simp [World.frozen?, h]


end
/- The walk of (*parser.reader).rule: its state. -/
section
open Go Go.RowKit
set_option linter.unusedSimpArgs false

theorem LiV.form {w : World} {P : Nat → Prop} {x : List Value} {l : Li} (h : LiV w P x l) : ∃ b nm A cap a, x = [.bool b, .string (bs nm), .slice A a.length cap] ∧ l = ⟨b, .mk nm a⟩ := by
  obtain ⟨y, rfl, h⟩ := h
  obtain ⟨nm, A, cap, a, rfl, he⟩ := h.form
  refine ⟨l.neg, nm, A, cap, a, rfl, ?_⟩
  rw [← he]

section
variable {w0 w w' : World} {rb tb cap : Nat} {toks : List Tok} {r2 bo : Nat} {c0 c1 : Value} {h : Tm} {v : Value} {acc : List Li} {ts ts' : List Tok}
end

def bodyK (n : Nat) (acc : List Li) (cur : List Tok) : PR (List Li) := if isT cur [97, 110, 100] then bodyF n acc cur.tail else .ok acc cur
def finR (h : Tm) (r : PR (List Li)) : PR Ru :=
  match r with
  | .err p e => .err p e
  | .ok b ts2 => if isT ts2 [46] then .ok ⟨h, b⟩ ts2.tail else failT ts2 1
theorem litF_8 (ts : List Tok) : ∃ p e, litF 8 ts = .err p e := by
  cases hn : isT ts [110, 111, 116] with
  | true => exact ⟨_, _, litF_full (by rw [hn]; rfl)⟩
  | false =>
    cases hk : (hd ts).kind == 1 with
    | true => exact ⟨_, _, litF_full (by rw [hk]; simp)⟩
    | false => exact ⟨_, _, by rw [litF_go (by rw [hn, hk]; rfl), hn, if_neg Bool.false_ne_true]; unfold atomF; rw [hk]; rfl⟩
theorem bodyF_err {n : Nat} {acc : List Li} {ts : List Tok} {p : Nat} {e : Int} (hn : 0 < n) (h : litF acc.length ts = .err p e) : bodyF n acc ts = .err p e := by
  cases n with
  | zero => omega
  | succ n => rw [bodyF, h]
theorem bodyF_ok {n : Nat} {acc : List Li} {ts r : List Tok} {l : Li} (hn : 0 < n) (h : litF acc.length ts = .ok l r) : bodyF n acc ts = bodyK (n - 1) (acc ++ [l]) r := by
  cases n with
  | zero => omega
  | succ n => rw [bodyF, h]; rfl
theorem ruleF_err {ts : List Tok} {p : Nat} {e : Int} (h : atomF ts = .err p e) : ruleF ts = .err p e := by unfold ruleF; rw [h]
theorem ruleF_ok {ts r : List Tok} {t : Tm} (h : atomF ts = .ok t r) : ruleF ts = finR t (if isT r [105, 102] then bodyF 9 [] r.tail else .ok [] r) := by
  unfold ruleF; rw [h]; rfl

end
/- The walk of (*parser.reader).rule. -/
section
open Go Go.RowKit
set_option linter.unusedSimpArgs false


end
/- The walks of (*parser.reader).rules and .terms. -/
section
open Go Go.RowKit
set_option linter.unusedSimpArgs false

/-- what reading a list leaves -/
def LPost {α : Type} (R : Rdr α) (sz : Nat) (w : World) (rb tb cap : Nat) (toks : List Tok) (r : PR (List α)) (e : Ending) (w' : World) : Prop :=
  match r with
  | .ok l rest => ∃ A cp, e = .returned (.slice A l.length cp) ∧ SlV R sz w' (fun b => w.heap.size ≤ b) A l ∧ Moved w rb tb cap toks rest w'
  | .err p k => e = Viol p k ∧ w.grownBy w' (some rb)

/-- the state at the head of such a loop -/
structure LSt {α : Type} (R : Rdr α) (e : TypeId) (sz : Nat) (w0 w : World) (rb tb cap : Nat) (toks : List Tok) (v : Value) (acc : List α) (ts : List Tok) : Prop where
  rd : ∃ i, Rd w rb tb cap toks ts i
  rbl : rb < w0.heap.size
  tbl : tb < w0.heap.size
  own : OwnL R e sz w w0.heap.size v acc
  gr : w0.grownBy w (some rb)

section
variable {α : Type} {R : Rdr α} {e : TypeId} {sz : Nat} {w0 w w' : World} {rb tb cap : Nat} {toks : List Tok} {v : Value} {acc : List α} {ts ts' : List Tok}
theorem LSt.move (hR : Keeps R) (s : LSt R e sz w0 w rb tb cap toks v acc ts) (hm : Moved w rb tb cap toks ts' w') : LSt R e sz w0 w' rb tb cap toks v acc ts' :=
  ⟨hm.1, s.rbl, s.tbl, s.own.keep hR hm.2 (fun k hk => by injection hk with hk; subst hk; exact s.rbl), grown_trans s.gr hm.2⟩
theorem LSt.below (hR : Keeps R) (s : LSt R e sz w0 w rb tb cap toks v acc ts) (hb : Below w.heap.size w w') : LSt R e sz w0 w' rb tb cap toks v acc ts := by
  obtain ⟨i, hi⟩ := s.rd
  exact s.move hR ⟨⟨i, hi.below hb⟩, grown_of_below hb _⟩
theorem LSt.app (hR : Keeps R) (s : LSt R e sz w0 w rb tb cap toks v acc ts) {B : Nat} {x : List Value} {t : α} (hx : R w (fun b => B ≤ b) x t) (hl : x.length = sz) (hB : w0.heap.size ≤ B) (hv : ∀ k, v.ownBlock = some k → k < B) :
    ∃ xs, w.ownsRow w0.heap.size e sz v acc.length xs ∧ ∀ (g cp : Nat) (w6 : World) (o : Obj), w6.ownsRow w0.heap.size e sz (.slice (some ⟨g, 0, none⟩) (acc.length + 1) cp) (acc.length + 1) (xs ++ x) →
      (w.alloc o).grownBy w6 v.ownBlock → (v.ownBlock = some g ∨ g = w.heap.size + 1) →
      LSt R e sz w0 w6 rb tb cap toks (.slice (some ⟨g, 0, none⟩) (acc.length + 1) cp) (acc ++ [t]) ts := by
  obtain ⟨xs, h1, h2, h3, h4⟩ := s.own
  refine ⟨xs.flatten, h3, fun g cp w6 o hown hgrow hat => ?_⟩
  have hlt := h3.lt
  have hpush := OwnL.push hR h1 h2 h4 (hR _ _ _ _ _ _ hx (fun b hb _ => ⟨⟨by omega, fun e => by have := hv b e.symm; omega⟩, rfl⟩) (Nat.le_refl _)) hl (wA := w.alloc o) (fun b hb => Below.heap_alloc w o b hb) (by simp) hown hgrow
    (by rcases hat with hat | hat
        · exact .inl hat
        · exact .inr (by omega))
  have hne : ∀ b, b < w.heap.size → v.ownBlock ≠ some b → w6.heap[b]? = w.heap[b]? := fun b hb hn => (hgrow.block b (by simp; omega) (Ne.symm hn)).trans (Below.heap_alloc w o b hb)
  have hnr : ∀ b, b < w0.heap.size → v.ownBlock ≠ some b := fun b hb e => by have := (hlt b e).1; omega
  have hs6 : w.heap.size ≤ w6.heap.size := by have := hgrow.size; simp at this; omega
  have hrl := s.rbl
  have htl := s.tbl
  refine ⟨?_, s.rbl, s.tbl, hpush, ?_⟩
  · obtain ⟨i, hi⟩ := s.rd
    exact ⟨i, hi.lt, hi.ts_, (hne rb hi.rlt (hnr rb hrl)).trans hi.blk, hi.tk.keep (hne tb hi.tk.1 (hnr tb htl)) (by omega), hi.ne, hi.big, hi.fin⟩
  · have hg := s.gr
    refine ⟨hgrow.os.trans hg.os, hgrow.tape.trans hg.tape, hgrow.output.trans hg.output, by have := hg.size; omega, fun k hk hne2 => ?_⟩
    rw [hne k (by have := hg.size; omega) (hnr k hk)]
    exact hg.block k hk hne2
theorem LSt.done (hR : Keeps R) (s : LSt R e sz w0 w rb tb cap toks v acc ts) : ∃ A cp, v = .slice A acc.length cp ∧ SlV R sz w (fun b => w0.heap.size ≤ b) A acc ∧ Moved w0 rb tb cap toks ts w := by
  obtain ⟨A, cp, rfl⟩ := s.own.len
  exact ⟨A, cp, rfl, s.own.sl hR, s.rd, s.gr⟩
end
theorem RuV.form {w : World} {P : Nat → Prop} {x : List Value} {r : Ru} (h : RuV w P x r) : ∃ nm A cap a A2 cap2, x = [.string (bs nm), .slice A a.length cap, .slice A2 r.body.length cap2] ∧ r.head = .mk nm a := by
  obtain ⟨y, A2, cap2, rfl, h, h2⟩ := h
  obtain ⟨nm, A, cap, a, rfl, he⟩ := h.form
  exact ⟨nm, A, cap, a, A2, cap2, rfl, he⟩

theorem rulesF_end {n : Nat} {acc : List Ru} {ts : List Tok} (hn : 0 < n) (h : ((hd ts).kind == 0) = true) : rulesF n acc ts = .ok acc ts := by
  cases n with
  | zero => omega
  | succ n => rw [rulesF, if_pos h]
theorem rulesF_full {n : Nat} {acc : List Ru} {ts : List Tok} (hn : 0 < n) (h : ((hd ts).kind == 0) = false) (h2 : (acc.length == 128 && (hd ts).kind == 1) = true) : rulesF n acc ts = failT ts 2 := by
  cases n with
  | zero => omega
  | succ n => rw [rulesF, if_neg (by rw [h]; exact Bool.false_ne_true), if_pos h2]
theorem rulesF_err {n : Nat} {acc : List Ru} {ts : List Tok} {p : Nat} {e : Int} (hn : 0 < n) (h : ((hd ts).kind == 0) = false) (h2 : (acc.length == 128 && (hd ts).kind == 1) = false) (h3 : ruleF ts = .err p e) : rulesF n acc ts = .err p e := by
  cases n with
  | zero => omega
  | succ n => rw [rulesF, if_neg (by rw [h]; exact Bool.false_ne_true), if_neg (by rw [h2]; exact Bool.false_ne_true), h3]
theorem rulesF_ok {n : Nat} {acc : List Ru} {ts r : List Tok} {x : Ru} (hn : 0 < n) (h : ((hd ts).kind == 0) = false) (h2 : (acc.length == 128 && (hd ts).kind == 1) = false) (h3 : ruleF ts = .ok x r) : rulesF n acc ts = rulesF (n - 1) (acc ++ [x]) r := by
  cases n with
  | zero => omega
  | succ n => rw [rulesF, if_neg (by rw [h]; exact Bool.false_ne_true), if_neg (by rw [h2]; exact Bool.false_ne_true), h3]; rfl
theorem ruleF_kind {ts r : List Tok} {x : Ru} (h : ruleF ts = .ok x r) : ((hd ts).kind == 1) = true := by
  cases hk : (hd ts).kind == 1 with
  | true => rfl
  | false =>
    unfold ruleF atomF at h
    rw [hk] at h
    simp only [Bool.false_eq_true, if_false, failT] at h
    cases h


end
/- The walks of (*parser.reader).terms and parser.Term$1. -/
section
open Go Go.RowKit
set_option linter.unusedSimpArgs false

theorem tail_len {ts : List Tok} (h : (hd ts).kind ≠ 0) : ts.tail.length + 1 = ts.length := by
  cases ts with
  | nil => exact absurd rfl h
  | cons a r => rfl
theorem argsF_len {tf : List Tok → PR Tm} (htf : ∀ ts t r, tf ts = .ok t r → r.length < ts.length) :
    ∀ (n : Nat) (acc : List Tm) (ts : List Tok) (l : List Tm) (r : List Tok), argsF tf n acc ts = .ok l r → r.length < ts.length := by
  intro n
  induction n with
  | zero => intro acc ts l r h; cases h
  | succ n ih =>
    intro acc ts l r h
    rw [argsF] at h
    split at h
    · cases h
    · split at h
      · cases h
      · rename_i t ts' ht
        have h1 := htf _ _ _ ht
        split at h
        · have := ih _ _ _ _ h
          have h2 : ts'.tail.length ≤ ts'.length := by rw [List.length_tail]; omega
          omega
        · split at h
          · cases h
            have h2 : ts'.tail.length ≤ ts'.length := by rw [List.length_tail]; omega
            omega
          · cases h
theorem compF_len {tf : List Tok → PR Tm} (htf : ∀ ts t r, tf ts = .ok t r → r.length < ts.length) {ts r : List Tok} {t : Tm} (hk : (hd ts).kind ≠ 0) (h : compF tf ts = .ok t r) : r.length < ts.length := by
  have h0 := tail_len hk
  unfold compF at h
  split at h
  · split at h
    · cases h
    · rename_i l ts' ht
      cases h
      have := argsF_len htf _ _ _ _ _ ht
      have h2 : ts.tail.tail.length ≤ ts.tail.length := by rw [List.length_tail]; omega
      omega
  · cases h; omega
theorem termF_len : ∀ (d : Nat) (ts : List Tok) (t : Tm) (r : List Tok), termF d ts = .ok t r → r.length < ts.length := by
  intro d
  induction d with
  | zero => intro ts t r h; rw [termF] at h; split at h <;> cases h
  | succ d ih =>
    intro ts t r h
    rw [termF] at h
    split at h
    · rename_i hb
      have hk := begT_kind hb
      split at h
      · exact compF_len ih hk h
      · cases h
        have := tail_len hk
        omega
    · cases h
def termsK (n : Nat) (acc : List Tm) (cur : List Tok) : PR (List Tm) := if isT cur [44] then termsGo n acc cur.tail else .ok acc cur
theorem termsGo_err {n : Nat} {acc : List Tm} {ts : List Tok} {p : Nat} {e : Int} (hn : 0 < n) (h : termF 4 ts = .err p e) : termsGo n acc ts = .err p e := by
  cases n with
  | zero => omega
  | succ n => rw [termsGo, h]
theorem termsGo_ok {n : Nat} {acc : List Tm} {ts r : List Tok} {t : Tm} (hn : 0 < n) (h : termF 4 ts = .ok t r) : termsGo n acc ts = termsK (n - 1) (acc ++ [t]) r := by
  cases n with
  | zero => omega
  | succ n => rw [termsGo, h]; rfl
theorem Rd.len {w : World} {rb tb cap : Nat} {toks ts : List Tok} {i : Nat} (h : Rd w rb tb cap toks ts i) : ts.length < 20000 ∧ 0 < ts.length := by
  have h1 := h.ts_
  have h2 := h.big
  have h3 := h.lt
  subst h1
  rw [List.length_drop]
  omega
theorem infoTerm2 : (Tryz.prog.info? 25).map (fun i => (i.zero, i.size, i.bytes)) = some (some (.agg #[.string ⟨#[]⟩, .slice none 0 0]), 2, 40) := infoTerm

set_option maxHeartbeats 4000000 in
set_option maxRecDepth 100000 in
theorem term1_any (w : World) (rb tb cap : Nat) (toks ts : List Tok) (i : Nat) (h : Rd w rb tb cap toks ts i) :
    Calls Tryz.prog 78 #[.pointer (some ⟨rb, 0, none⟩)] w (TPost w rb tb cap toks (termF 4 ts)) := by
  have HR := Lib.hid h
  have hrw := h.rlt
  have htw := h.tk.1
  clear h
  have HR1 := Lib.hid (HR.out.below (w' := w.alloc (.cells #[.string ⟨#[]⟩, .slice none 0 0] 25)) ((Below.refl _ _).alloc (Nat.le_refl _) _))
  have HRES := Lib.hid (heap_alloc_new w (.cells #[.string ⟨#[]⟩, .slice none 0 0] 25))
  have HG := Lib.hid (World.grownBy_alloc w (.cells #[.string ⟨#[]⟩, .slice none 0 0] 25) (some rb))
  go_enter Tryz.func78, Tryz.ntmps78
  go_wp2_with fail
  generalize w.alloc (.cells #[.string ⟨#[]⟩, .slice none 0 0] 25) = w1 at *
  have hsz := heap_lt HRES.out
  (with_reducible refine (term_any 4 (Nat.le_refl _) w1 rb tb cap toks ts i HR1.out 1 (by omega)).mono ?_)
  cases hct : termF 4 ts with
  | err p e =>
    rintro e' w3 ⟨rfl, hg⟩
    refine ⟨rfl, ?_⟩
    exact ⟨rfl, grown_trans HG.out hg⟩
  | ok t rest =>
    have HT := Lib.hid hct
    clear hct
    rintro e' w3 ⟨x, rfl, htm, hmv⟩
    obtain ⟨nm', A', cp', l', rfl, rfl⟩ := htm.form
    have hr3 := (hmv.2.block w.heap.size hsz (by simp; omega)).trans HRES.out
    obtain ⟨cr0, cr1, fr0, fr1⟩ := cells_two hr3
    have HTM := Lib.hid htm
    have HMV := Lib.hid hmv
    clear htm hmv hr3
    go_wp2_with fail
    refine bodyPost_ret (v := .agg #[.string (bs nm'), .slice A' l'.length cp']) (by simp [results, Tryz.results78, go_sem, cr0, cr1]) rfl ?_
    unfold TPost
    rw [HT.out]
    have hg2 : w3.grownBy ((w3.setCell ⟨w.heap.size, 0, none⟩ (.string (bs nm'))).setCell ⟨w.heap.size, 1, none⟩ (.slice A' l'.length cp')) (some w.heap.size) := grown_trans (grown_set _ _ _ _) (grown_set _ _ _ _)
    exact ⟨[.string (bs nm'), .slice A' l'.length cp'], rfl, HTM.out.other hg2 hsz (by omega), Moved.other ⟨HMV.out.1, grown_trans HG.out HMV.out.2⟩ hg2 (Nat.le_refl _) hrw htw⟩

end
end Go.Proofs.YtmplpbdldcokjaaGreatDoor
