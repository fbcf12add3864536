/- parser.read: a whole text is lexed and read. -/
import Derived.Test.YthkbnjojkeeffaaDoorRc
import Derived.Test.YthkbnjojkeeffaaDoorLe
namespace Go.Proofs.YthkbnjojkeeffaaDoor
open Go Go.RowKit
set_option linter.unusedSimpArgs false

theorem pre_ok {a : List Tok} {x : LexR} {ts : List Tok} (h : x.pre a = .ok ts) : ∃ r, x = .ok r ∧ ts = a ++ r := by
  cases x with
  | ok r => cases h; exact ⟨r, rfl, rfl⟩
  | err p e => cases h
theorem pre_err {a : List Tok} {x : LexR} {p : Nat} {e : Int} (h : x.pre a = .err p e) : x = .err p e := by
  cases x with
  | ok r => cases h
  | err p e => cases h; rfl
theorem lexGo_len : ∀ (f off : Nat) (l : List UInt8) (ts : List Tok), lexGo f off l = .ok ts → ts.length ≤ l.length + 1 := by
  intro f
  induction f with
  | zero => intro off l ts h; cases h
  | succ f ih =>
    intro off l ts h
    cases l with
    | nil => rw [lexGo_nil] at h; cases h; simp
    | cons c r =>
      cases hb : blankB (bInt c) with
      | true => rw [lexGo_blank _ _ _ _ hb] at h; have := ih _ _ _ h; simp; omega
      | false =>
        cases hh : (bInt c == 35) with
        | true =>
          rw [lexGo_hash _ _ _ _ hb hh] at h
          have := ih _ _ _ h
          rw [dropWhile_drop, List.length_drop] at this
          omega
        | false =>
          cases hr : runB (bInt c) with
          | true =>
            cases hk : (kindF ((c :: r).takeWhile (fun c => runB (bInt c))) == 0) with
            | true => rw [lexGo_badrun _ _ _ _ hb hh hr hk] at h; cases h
            | false =>
              rw [lexGo_run _ _ _ _ hb hh hr hk] at h
              obtain ⟨ts', h1, rfl⟩ := pre_ok h
              have := ih _ _ _ h1
              rw [dropWhile_drop, List.length_drop] at this
              have h0 : 0 < ((c :: r).takeWhile (fun c => runB (bInt c))).length := by rw [List.takeWhile_cons_of_pos (p := fun c => runB (bInt c)) hr]; simp
              have h2 : 0 < (c :: r).length := by simp
              rw [List.length_append, List.length_singleton]
              omega
          | false =>
            cases hs : symB (bInt c) with
            | true =>
              rw [lexGo_sym _ _ _ _ hb hh hr hs] at h
              obtain ⟨ts', h1, rfl⟩ := pre_ok h
              have := ih _ _ _ h1
              simp; omega
            | false => rw [lexGo_bad _ _ _ _ hb hh hr hs] at h; cases h
theorem lexGo_err : ∀ (f off : Nat) (l : List UInt8) (p : Nat) (e : Int), lexGo f off l = .err p e → e ≠ 0 := by
  intro f
  induction f with
  | zero => intro off l p e h; cases h; decide
  | succ f ih =>
    intro off l p e h
    cases l with
    | nil => rw [lexGo_nil] at h; cases h
    | cons c r =>
      cases hb : blankB (bInt c) with
      | true => rw [lexGo_blank _ _ _ _ hb] at h; exact ih _ _ _ _ h
      | false =>
        cases hh : (bInt c == 35) with
        | true => rw [lexGo_hash _ _ _ _ hb hh] at h; exact ih _ _ _ _ h
        | false =>
          cases hr : runB (bInt c) with
          | true =>
            cases hk : (kindF ((c :: r).takeWhile (fun c => runB (bInt c))) == 0) with
            | true => rw [lexGo_badrun _ _ _ _ hb hh hr hk] at h; cases h; decide
            | false => rw [lexGo_run _ _ _ _ hb hh hr hk] at h; exact ih _ _ _ _ (pre_err h)
          | false =>
            cases hs : symB (bInt c) with
            | true => rw [lexGo_sym _ _ _ _ hb hh hr hs] at h; exact ih _ _ _ _ (pre_err h)
            | false => rw [lexGo_bad _ _ _ _ hb hh hr hs] at h; cases h; decide
theorem lexF_len {l : List UInt8} {ts : List Tok} (h : lexF l = .ok ts) : ts.length < 20000 := by
  unfold lexF at h
  split at h
  · cases h
  · have := lexGo_len _ _ _ _ h
    omega
theorem lexF_err {l : List UInt8} {p : Nat} {e : Int} (h : lexF l = .err p e) : e ≠ 0 := by
  unfold lexF at h
  split at h
  · cases h; decide
  · exact lexGo_err _ _ _ _ _ h

theorem Rd.other {w w' : World} {rb tb cap : Nat} {toks ts : List Tok} {i q : Nat} (hi : Rd w rb tb cap toks ts i) (hg : w.grownBy w' (some q)) (h1 : q ≠ rb) (h2 : q ≠ tb) : Rd w' rb tb cap toks ts i :=
  ⟨hi.lt, hi.ts_, (hg.block _ hi.rlt (fun e => h1 (by injection e with e; exact e.symm))).trans hi.blk, hi.tk.keep (hg.block _ hi.tk.1 (fun e => h2 (by injection e with e; exact e.symm))) hg.size, hi.ne, hi.big, hi.fin⟩

/-- what a whole reading gives: V says how a value of the program shows a value of the specification; z is the nothing that stands beside an error -/
def OutP {α : Type} (V : World → (Nat → Prop) → Value → α → Prop) (z : Value) (w : World) (r : Rs α) (e : Ending) (w' : World) : Prop :=
  Below w.heap.size w w' ∧ match r with
  | .ok a => ∃ v, e = .returned (.tuple #[v, .int .i64 0, .int .i64 0]) ∧ V w' (fun b => w.heap.size ≤ b) v a
  | .err p k => e = .returned (.tuple #[z, .int .i64 p, .int .i64 k])
def VL {α : Type} (R : Rdr α) (sz : Nat) (w : World) (P : Nat → Prop) (v : Value) (l : List α) : Prop := ∃ A cp, v = .slice A l.length cp ∧ SlV R sz w P A l
def VS {α : Type} (R : Rdr α) (w : World) (P : Nat → Prop) (v : Value) (a : α) : Prop := ∃ x : List Value, v = .agg x.toArray ∧ R w P x a

/-- the three results' blocks -/
structure Q3 (w0 w : World) (n q1 q2 : Nat) (x : List Value) (t0 : TypeId) (x1 x2 : Value) : Prop where
  a : w.heap[n]? = some (.cells x.toArray t0 (0, 0))
  b : w.heap[q1]? = some (.cells #[x1] 3 (0, 0))
  c : w.heap[q2]? = some (.cells #[x2] 38 (0, 0))
  d : Below n w0 w
  e1 : q1 = n + 1
  e2 : q2 = n + 2
section
variable {w0 w w' : World} {n q1 q2 : Nat} {t0 : TypeId} {x1 x2 : Value}
theorem Q3.grow {x : List Value} (h : Q3 w0 w n q1 q2 x t0 x1 x2) {row : Option Nat} (hg : w.grownBy w' row) (hr : ∀ k, row = some k → q2 < k) : Q3 w0 w' n q1 q2 x t0 x1 x2 := by
  have hl := heap_lt h.c
  have e1 := h.e1
  have e2 := h.e2
  refine ⟨(hg.block _ (by omega) (fun e => ?_)).trans h.a, (hg.block _ (by omega) (fun e => ?_)).trans h.b, (hg.block _ hl (fun e => ?_)).trans h.c, h.d.grown hg (by omega) (fun k hk => by have := hr k hk; omega), e1, e2⟩
  · have := hr _ e.symm; omega
  · have := hr _ e.symm; omega
  · have := hr _ e.symm; omega
theorem Q3.set1 {x : List Value} (h : Q3 w0 w n q1 q2 x t0 x1 x2) (u : Value) : Q3 w0 (w.setCell ⟨q1, 0, none⟩ u) n q1 q2 x t0 u x2 := by
  have e1 := h.e1
  have e2 := h.e2
  exact ⟨(Below.heap_setCell _ _ _ _ (by simp; omega)).trans h.a, by simp [World.setCell, Array.getElem?_modify, h.b], (Below.heap_setCell _ _ _ _ (by simp; omega)).trans h.c, below_set h.d _ _ _ (by omega), e1, e2⟩
theorem Q3.set2 {x : List Value} (h : Q3 w0 w n q1 q2 x t0 x1 x2) (u : Value) : Q3 w0 (w.setCell ⟨q2, 0, none⟩ u) n q1 q2 x t0 x1 u := by
  have e1 := h.e1
  have e2 := h.e2
  exact ⟨(Below.heap_setCell _ _ _ _ (by simp; omega)).trans h.a, (Below.heap_setCell _ _ _ _ (by simp; omega)).trans h.b, by simp [World.setCell, Array.getElem?_modify, h.c], below_set h.d _ _ _ (by omega), e1, e2⟩
theorem Q3.set0 {x : List Value} (h : Q3 w0 w n q1 q2 x t0 x1 x2) (o : Nat) (u : Value) : Q3 w0 (w.setCell ⟨n, o, none⟩ u) n q1 q2 (x.set o u) t0 x1 x2 := by
  have e1 := h.e1
  have e2 := h.e2
  exact ⟨by simp [World.setCell, Array.getElem?_modify, h.a], (Below.heap_setCell _ _ _ _ (by simp; omega)).trans h.b, (Below.heap_setCell _ _ _ _ (by simp; omega)).trans h.c, below_set h.d _ _ _ (Nat.le_refl _), e1, e2⟩
theorem Q3.facts1 {x0 : Value} (h : Q3 w0 w n q1 q2 [x0] t0 x1 x2) :
    (w.cell? ⟨n, 0, none⟩ = some x0 ∧ w.frozen? ⟨n, 0, none⟩ = false) ∧ (w.cell? ⟨q1, 0, none⟩ = some x1 ∧ w.frozen? ⟨q1, 0, none⟩ = false) ∧ (w.cell? ⟨q2, 0, none⟩ = some x2 ∧ w.frozen? ⟨q2, 0, none⟩ = false) :=
  ⟨cells_one h.a, cells_one h.b, cells_one h.c⟩
theorem Q3.facts2 {x0 y0 : Value} (h : Q3 w0 w n q1 q2 [x0, y0] t0 x1 x2) :
    (w.cell? ⟨n, 0, none⟩ = some x0 ∧ w.cell? ⟨n, 1, none⟩ = some y0 ∧ w.frozen? ⟨n, 0, none⟩ = false ∧ w.frozen? ⟨n, 1, none⟩ = false) ∧ (w.cell? ⟨q1, 0, none⟩ = some x1 ∧ w.frozen? ⟨q1, 0, none⟩ = false) ∧ (w.cell? ⟨q2, 0, none⟩ = some x2 ∧ w.frozen? ⟨q2, 0, none⟩ = false) :=
  ⟨cells_two h.a, cells_one h.b, cells_one h.c⟩
theorem Q3.facts3 {x0 y0 z0 : Value} (h : Q3 w0 w n q1 q2 [x0, y0, z0] t0 x1 x2) :
    (w.cell? ⟨n, 0, none⟩ = some x0 ∧ w.cell? ⟨n, 1, none⟩ = some y0 ∧ w.cell? ⟨n, 2, none⟩ = some z0 ∧ w.frozen? ⟨n, 0, none⟩ = false ∧ w.frozen? ⟨n, 1, none⟩ = false ∧ w.frozen? ⟨n, 2, none⟩ = false) ∧ (w.cell? ⟨q1, 0, none⟩ = some x1 ∧ w.frozen? ⟨q1, 0, none⟩ = false) ∧ (w.cell? ⟨q2, 0, none⟩ = some x2 ∧ w.frozen? ⟨q2, 0, none⟩ = false) :=
  ⟨cells_three h.a, cells_one h.b, cells_one h.c⟩
end

set_option maxHeartbeats 8000000 in
set_option maxRecDepth 100000 in
theorem read_parse (w : World) (s : ByteArray) (hs : s.size ≤ 9223372036854775807) (hw : Wd w) :
    Calls Tryd.prog 44 #[.string s, .func (.func 45) #[] #[]] w (OutP (VL RuV 3) (.slice none 0 0) w (readF (rulesF 129 []) s.data.toList)) := by
  have hmf : ∀ (fn : Fn) (first cap : Array Value) (w : World), (Instr.makeFunc fn first cap).run Tryd.prog w = .ok (.func fn first cap) w := fun _ _ _ _ => rfl
  have hq0 : Q3 w (((w.alloc (.cells #[.slice none 0 0] 37)).alloc (.cells #[.int .i64 0] 3)).alloc (.cells #[.int .i64 0] 38)) w.heap.size (w.heap.size + 1) (w.heap.size + 1 + 1) [.slice none 0 0] 37 (.int .i64 0) (.int .i64 0) := by
    have s1 : (w.alloc (.cells #[.slice none 0 0] 37)).heap.size = w.heap.size + 1 := by simp
    have s2 : ((w.alloc (.cells #[.slice none 0 0] 37)).alloc (.cells #[.int .i64 0] 3)).heap.size = w.heap.size + 2 := by simp
    refine ⟨?_, ?_, ?_, (((Below.refl _ _).alloc (Nat.le_refl _) _).alloc (by omega) _).alloc (by omega) _, rfl, rfl⟩
    · rw [Below.heap_alloc _ _ _ (by omega), Below.heap_alloc _ _ _ (by omega)]; exact heap_alloc_new _ _
    · rw [Below.heap_alloc _ _ _ (by omega), ← s1]; exact heap_alloc_new _ _
    · rw [← s2]; exact heap_alloc_new _ _
  have HQ0 := Lib.hid hq0
  have HW := Lib.hid (hw.below hq0.d hw.1)
  clear hq0 hw
  go_enter_defers Tryd.func44, Tryd.ntmps44
  go_wp2_with fail
  generalize ((w.alloc (.cells #[.slice none 0 0] 37)).alloc (.cells #[.int .i64 0] 3)).alloc (.cells #[.int .i64 0] 38) = w0 at *
  refine (lex_any w0 s hs HW.out).mono ?_
  cases hlx : lexF s.data.toList with
  | err p x =>
    have HF : Hid (readF (rulesF 129 []) s.data.toList = .err p x) := by unfold Hid readF; rw [hlx]
    have hx0 : (x == 0) = false := beq_eq_false_iff_ne.2 (lexF_err hlx)
    clear hlx
    rintro e w1 ⟨hb, he⟩
    subst he
    have HQ1 := Lib.hid (HQ0.out.grow (grown_of_below hb none) (fun k hk => by cases hk))
    clear hb
    obtain ⟨⟨a1, a2⟩, ⟨b1, b2⟩, ⟨d1, d2⟩⟩ := HQ1.out.facts1
    generalize w.heap.size + 1 + 1 = q2 at *
    generalize w.heap.size + 1 = q1 at *
    have h01 : w.heap.size ≠ q1 := by have := HQ1.out.e1; omega
    have h02 : w.heap.size ≠ q2 := by have := HQ1.out.e2; omega
    have h12 : q1 ≠ q2 := by have := HQ1.out.e1; have := HQ1.out.e2; omega
    generalize hn : w.heap.size = n at *
    go_wp2_with fail
    have HQ2 := Lib.hid ((HQ1.out.set1 (.int .i64 p)).set2 (.int .i64 x))
    clear HQ1 a1 a2 b1 b2 d1 d2
    generalize (w1.setCell ⟨q1, 0, none⟩ (.int .i64 p)).setCell ⟨q2, 0, none⟩ (.int .i64 x) = w2 at *
    obtain ⟨⟨a1, a2⟩, ⟨b1, b2⟩, ⟨d1, d2⟩⟩ := HQ2.out.facts1
    go_region
    go_wp2_with fail
    have HQ3 := Lib.hid (((HQ2.out.set0 0 (.slice none 0 0)).set1 (.int .i64 p)).set2 (.int .i64 x))
    obtain ⟨⟨a3, _⟩, ⟨b3, _⟩, ⟨d3, _⟩⟩ := HQ3.out.facts1
    refine ⟨.tuple #[.slice none 0 0, .int .i64 p, .int .i64 x], by simp [results, Tryd.results44, go_sem, a3, b3, d3], ?_⟩
    unfold OutP
    rw [HF.out, hn]
    exact ⟨HQ3.out.d.drew, rfl⟩
  | ok ts =>
    have HF : Hid (readF (rulesF 129 []) s.data.toList = endF ((rulesF 129 []) ts)) := by unfold Hid readF; rw [hlx]
    have HEN := Lib.hid (lexF_end hlx)
    have HLN := Lib.hid (lexF_len hlx)
    clear hlx
    rintro e w1 ⟨hb, g, cap, he, hown⟩
    subst he
    have HQ1 := Lib.hid (HQ0.out.grow (grown_of_below hb none) (fun k hk => by cases hk))
    have hlp : 0 < ts.length := List.length_pos_iff.2 HEN.out.ne
    have HTK := Lib.hid (Tk.of_own hown hlp)
    have HGL := Lib.hid (hown.lt g rfl)
    have HQL := Lib.hid (heap_lt HQ0.out.c)
    have HB := Lib.hid hb
    clear hb hown
    obtain ⟨⟨a1, a2⟩, ⟨b1, b2⟩, ⟨d1, d2⟩⟩ := HQ1.out.facts1
    generalize w.heap.size + 1 + 1 = q2 at *
    generalize w.heap.size + 1 = q1 at *
    have h01 : w.heap.size ≠ q1 := by have := HQ1.out.e1; omega
    have h02 : w.heap.size ≠ q2 := by have := HQ1.out.e2; omega
    have h12 : q1 ≠ q2 := by have := HQ1.out.e1; have := HQ1.out.e2; omega
    generalize hn : w.heap.size = n at *
    go_wp2_with fail
    have HQ2 := Lib.hid ((HQ1.out.set1 (.int .i64 0)).set2 (.int .i64 0))
    have hsz : ((w1.setCell ⟨q1, 0, none⟩ (.int .i64 0)).setCell ⟨q2, 0, none⟩ (.int .i64 0)).heap.size = w1.heap.size := by simp
    have HTK2 : Hid (Tk ((w1.setCell ⟨q1, 0, none⟩ (.int .i64 0)).setCell ⟨q2, 0, none⟩ (.int .i64 0)) g ts) := by
      have h1 := HGL.out.1
      have h2 := HQL.out
      have h3 := HQ1.out.e1
      have h4 := HQ1.out.e2
      exact HTK.out.keep ((Below.heap_setCell _ _ _ _ (by simp; omega)).trans (Below.heap_setCell _ _ _ _ (by simp; omega))) (by omega)
    have hgl := HGL.out.2
    have hql : q2 < w1.heap.size := heap_lt HQ1.out.c
    have hqg : q2 < g := by have h1 := HGL.out.1; have h2 := HQL.out; omega
    clear HQ1 HTK HGL HQL HB HQ0 a1 a2 b1 b2 d1 d2
    generalize (w1.setCell ⟨q1, 0, none⟩ (.int .i64 0)).setCell ⟨q2, 0, none⟩ (.int .i64 0) = w2 at *
    have hRD : Rd (w2.alloc (.cells #[.slice (some ⟨g, 0, none⟩) ts.length cap, .int .i64 0] 95)) w1.heap.size g cap ts ts 0 :=
      ⟨hlp, rfl, by rw [← hsz]; exact heap_alloc_new _ _, HTK2.out.keep (Below.heap_alloc _ _ _ (by omega)) (by simp), by omega, HLN.out, HEN.out⟩
    have HRD := Lib.hid hRD
    have HQ3 := Lib.hid (HQ2.out.grow (World.grownBy_alloc w2 (.cells #[.slice (some ⟨g, 0, none⟩) ts.length cap, .int .i64 0] 95) none) (fun k hk => by cases hk))
    have hs3 : (w2.alloc (.cells #[.slice (some ⟨g, 0, none⟩) ts.length cap, .int .i64 0] 95)).heap.size = w1.heap.size + 1 := by simp [hsz]
    clear hRD HQ2 HTK2 hsz
    generalize w2.alloc (.cells #[.slice (some ⟨g, 0, none⟩) ts.length cap, .int .i64 0] 95) = w3 at *
    generalize w1.heap.size = rb at *
    refine (rules_any w3 rb g cap ts ts 0 HRD.out).mono ?_
    cases hpf : (rulesF 129 []) ts with
    | err p x =>
      rw [hpf] at HF
      clear hpf
      rintro e' w4 ⟨rfl, hg4⟩
      have HQ4 := Lib.hid (HQ3.out.grow hg4 (fun k hk => by injection hk; omega))
      refine leaves_cons (f := 61) (args := #[.pointer (some ⟨n, 0, none⟩), .pointer (some ⟨q1, 0, none⟩), .pointer (some ⟨q2, 0, none⟩)]) (by simp) (by simp [go_sem]) ?_
      refine (rc_parse n q1 q2 HQ4.out.e1 HQ4.out.e2 p x [] w4 _ _ _ _ HQ4.out.a HQ4.out.b HQ4.out.c).mono ?_
      rintro e u' w5 ⟨rfl, rfl, c0, c1, c2, hb5⟩
      refine ⟨.tuple #[.slice none 0 0, .int .i64 p, .int .i64 x], by simp [results, Tryd.results44, go_sem, c0, c1, c2], ?_⟩
      unfold OutP
      rw [HF.out, hn]
      exact ⟨HQ4.out.d.trans hb5, rfl⟩
    | ok l rest =>
      rw [hpf] at HF
      clear hpf
      rintro e' w4 ⟨A, cp, rfl, hsl, ⟨⟨i4, hr4⟩, hg4⟩⟩
      have HQ4 := Lib.hid (HQ3.out.grow hg4 (fun k hk => by injection hk; omega))
      obtain ⟨⟨a1, a2⟩, ⟨b1, b2⟩, ⟨d1, d2⟩⟩ := HQ4.out.facts1
      have HQ5 := Lib.hid (HQ4.out.set0 0 (.slice A l.length cp))
      have he1 := HQ4.out.e1
      have he2 := HQ4.out.e2
      have HR5 := Lib.hid (hr4.other (grown_set w4 n 0 (.slice A l.length cp)) (by omega) (by omega))
      have HS5 : Hid (SlV RuV 3 (w4.setCell ⟨n, 0, none⟩ (.slice A l.length cp)) (fun b => q2 < b) A l) := hsl.keep keeps_ru (fun b hb hlt => ⟨by omega, Below.heap_setCell _ _ _ _ (by simp; omega)⟩) (by simp)
      clear hsl hr4 hg4 HQ3 HRD he1 he2
      go_wp2_with fail
      clear a1 a2 b1 b2 d1 d2 HQ4
      generalize w4.setCell ⟨n, 0, none⟩ (.slice A l.length cp) = w5 at *
      clear w4
      have f0 := fld0
      refine (token_any HR5.out).mono ?_
      rintro e w6 ⟨rfl, hb6⟩
      have HQ6 := Lib.hid (HQ5.out.grow (grown_of_below hb6 none) (fun k hk => by cases hk))
      have HR6 := Lib.hid (HR5.out.below hb6)
      have HS6 : Hid (SlV RuV 3 w6 (fun b => q2 < b) A l) := HS5.out.keep keeps_ru (fun b hb hlt => ⟨hb, hb6.block b hlt⟩) hb6.size
      clear hb6 HQ5 HR5 HS5
      cases hk0 : (hd rest).kind == 0 with
      | true =>
        have HF2 : Hid (readF (rulesF 129 []) s.data.toList = .ok l) := by unfold Hid; rw [HF.out]; unfold endF; simp only []; rw [if_pos hk0]
        clear HF
        generalize (hd rest).kind = kd at *
        obtain ⟨⟨a1, a2⟩, ⟨b1, b2⟩, ⟨d1, d2⟩⟩ := HQ6.out.facts1
        go_wp2_with fail
        have HQ7 := Lib.hid (((HQ6.out.set0 0 (.slice A l.length cp)).set1 (.int .i64 0)).set2 (.int .i64 0))
        have HS7 : Hid (SlV RuV 3 (((w6.setCell ⟨n, 0, none⟩ (.slice A l.length cp)).setCell ⟨q1, 0, none⟩ (.int .i64 0)).setCell ⟨q2, 0, none⟩ (.int .i64 0)) (fun b => q2 < b) A l) := by
          have e1 := HQ6.out.e1
          have e2 := HQ6.out.e2
          exact HS6.out.keep keeps_ru (fun b hb hlt => ⟨hb, (Below.heap_setCell _ _ _ _ (by simp; omega)).trans ((Below.heap_setCell _ _ _ _ (by simp; omega)).trans (Below.heap_setCell _ _ _ _ (by simp; omega)))⟩) (by simp)
        clear HQ6 HS6 HR6 a1 a2 b1 b2 d1 d2
        generalize ((w6.setCell ⟨n, 0, none⟩ (.slice A l.length cp)).setCell ⟨q1, 0, none⟩ (.int .i64 0)).setCell ⟨q2, 0, none⟩ (.int .i64 0) = w7 at *
        refine leaves_cons (f := 61) (args := #[.pointer (some ⟨n, 0, none⟩), .pointer (some ⟨q1, 0, none⟩), .pointer (some ⟨q2, 0, none⟩)]) (by simp) (by simp [go_sem]) ?_
        refine (ri_parse n q1 q2 w7).mono ?_
        rintro e u' w8 ⟨rfl, rfl, hb8⟩
        have HQ8 := HQ7.out.grow (grown_of_below hb8 none) (fun k hk => by cases hk)
        obtain ⟨⟨a1, _⟩, ⟨b1, _⟩, ⟨d1, _⟩⟩ := HQ8.facts1
        refine ⟨.tuple #[.slice A l.length cp, .int .i64 0, .int .i64 0], by simp [results, Tryd.results44, go_sem, a1, b1, d1], ?_⟩
        unfold OutP
        rw [HF2.out, hn]
        refine ⟨HQ8.d, _, rfl, A, cp, rfl, HS7.out.keep keeps_ru (fun b hb hlt => ⟨by have := HQ8.e2; omega, hb8.block b hlt⟩) hb8.size⟩
      | false =>
        have HF2 : Hid (readF (rulesF 129 []) s.data.toList = .err (hd rest).pos 1) := by unfold Hid; rw [HF.out]; unfold endF; simp only []; rw [if_neg (by rw [hk0]; exact Bool.false_ne_true)]
        clear HF
        generalize (hd rest).kind = kd at *
        go_wp2_with fail
        refine (fail_any HR6.out 1).mono ?_
        rintro e' w7 ⟨rfl, hb7⟩
        have HQ7 := Lib.hid (HQ6.out.grow (grown_of_below hb7 none) (fun k hk => by cases hk))
        refine leaves_cons (f := 61) (args := #[.pointer (some ⟨n, 0, none⟩), .pointer (some ⟨q1, 0, none⟩), .pointer (some ⟨q2, 0, none⟩)]) (by simp) (by simp [go_sem]) ?_
        refine (rc_parse n q1 q2 HQ7.out.e1 HQ7.out.e2 (hd rest).pos 1 [] w7 _ _ _ _ HQ7.out.a HQ7.out.b HQ7.out.c).mono ?_
        rintro e u' w8 ⟨rfl, rfl, c0, c1, c2, hb8⟩
        refine ⟨.tuple #[.slice none 0 0, .int .i64 (hd rest).pos, .int .i64 1], by simp [results, Tryd.results44, go_sem, c0, c1, c2], ?_⟩
        unfold OutP
        rw [HF2.out, hn]
        exact ⟨HQ7.out.d.trans hb8, rfl⟩

end Go.Proofs.YthkbnjojkeeffaaDoor
