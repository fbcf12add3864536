/- parser.read of one rule, one term. -/
import Derived.Test.YthkbnjojkeeffaaDoorRp
namespace Go.Proofs.YthkbnjojkeeffaaDoor
open Go Go.RowKit
set_option linter.unusedSimpArgs false

set_option maxHeartbeats 8000000 in
set_option maxRecDepth 100000 in
theorem read_rule (w : World) (s : ByteArray) (hs : s.size ≤ 9223372036854775807) (hw : Wd w) :
    Calls Tryd.prog 46 #[.string s, .func (.func 47) #[] #[]] w (OutP (VS RuV) (.agg #[.string ⟨#[]⟩, .slice none 0 0, .slice none 0 0]) w (readF ruleF s.data.toList)) := by
  have hmf : ∀ (fn : Fn) (first cap : Array Value) (w : World), (Instr.makeFunc fn first cap).run Tryd.prog w = .ok (.func fn first cap) w := fun _ _ _ _ => rfl
  have hq0 : Q3 w (((w.alloc (.cells #[.string ⟨#[]⟩, .slice none 0 0, .slice none 0 0] 27)).alloc (.cells #[.int .i64 0] 3)).alloc (.cells #[.int .i64 0] 38)) w.heap.size (w.heap.size + 1) (w.heap.size + 1 + 1) [.string ⟨#[]⟩, .slice none 0 0, .slice none 0 0] 27 (.int .i64 0) (.int .i64 0) := by
    have s1 : (w.alloc (.cells #[.string ⟨#[]⟩, .slice none 0 0, .slice none 0 0] 27)).heap.size = w.heap.size + 1 := by simp
    have s2 : ((w.alloc (.cells #[.string ⟨#[]⟩, .slice none 0 0, .slice none 0 0] 27)).alloc (.cells #[.int .i64 0] 3)).heap.size = w.heap.size + 2 := by simp
    refine ⟨?_, ?_, ?_, (((Below.refl _ _).alloc (Nat.le_refl _) _).alloc (by omega) _).alloc (by omega) _, rfl, rfl⟩
    · rw [Below.heap_alloc _ _ _ (by omega), Below.heap_alloc _ _ _ (by omega)]; exact heap_alloc_new _ _
    · rw [Below.heap_alloc _ _ _ (by omega), ← s1]; exact heap_alloc_new _ _
    · rw [← s2]; exact heap_alloc_new _ _
  have HQ0 := Lib.hid hq0
  have HW := Lib.hid (hw.below hq0.d hw.1)
  clear hq0 hw
  go_enter_defers Tryd.func46, Tryd.ntmps46
  go_wp2_with fail
  generalize ((w.alloc (.cells #[.string ⟨#[]⟩, .slice none 0 0, .slice none 0 0] 27)).alloc (.cells #[.int .i64 0] 3)).alloc (.cells #[.int .i64 0] 38) = w0 at *
  refine (lex_any w0 s hs HW.out).mono ?_
  cases hlx : lexF s.data.toList with
  | err p x =>
    have HF : Hid (readF ruleF s.data.toList = .err p x) := by unfold Hid readF; rw [hlx]
    have hx0 : (x == 0) = false := beq_eq_false_iff_ne.2 (lexF_err hlx)
    clear hlx
    rintro e w1 ⟨hb, he⟩
    subst he
    have HQ1 := Lib.hid (HQ0.out.grow (grown_of_below hb none) (fun k hk => by cases hk))
    clear hb
    obtain ⟨⟨a1, aa1, ab1, y1, yy1, yz1⟩, ⟨b1, b2⟩, ⟨d1, d2⟩⟩ := HQ1.out.facts3
    generalize w.heap.size + 1 + 1 = q2 at *
    generalize w.heap.size + 1 = q1 at *
    have h01 : w.heap.size ≠ q1 := by have := HQ1.out.e1; omega
    have h02 : w.heap.size ≠ q2 := by have := HQ1.out.e2; omega
    have h12 : q1 ≠ q2 := by have := HQ1.out.e1; have := HQ1.out.e2; omega
    generalize hn : w.heap.size = n at *
    go_wp2_with fail
    have HQ2 := Lib.hid ((HQ1.out.set1 (.int .i64 p)).set2 (.int .i64 x))
    clear HQ1 a1 aa1 ab1 y1 yy1 yz1 b1 b2 d1 d2
    generalize (w1.setCell ⟨q1, 0, none⟩ (.int .i64 p)).setCell ⟨q2, 0, none⟩ (.int .i64 x) = w2 at *
    obtain ⟨⟨a1, aa1, ab1, y1, yy1, yz1⟩, ⟨b1, b2⟩, ⟨d1, d2⟩⟩ := HQ2.out.facts3
    go_region
    go_wp2_with fail
    have HQ3 : Hid (Q3 w (((((w2.setCell ⟨n, 0, none⟩ (.string ⟨#[]⟩)).setCell ⟨n, 1, none⟩ (.slice none 0 0)).setCell ⟨n, 2, none⟩ (.slice none 0 0)).setCell ⟨q1, 0, none⟩ (.int .i64 p)).setCell ⟨q2, 0, none⟩ (.int .i64 x)) n q1 q2 [.string ⟨#[]⟩, .slice none 0 0, .slice none 0 0] _ _ _) := (((((HQ2.out.set0 0 (.string ⟨#[]⟩)).set0 1 (.slice none 0 0)).set0 2 (.slice none 0 0)).set1 (.int .i64 p)).set2 (.int .i64 x))
    obtain ⟨⟨a3, aa3, ab3, y3, yy3, yz3⟩, ⟨b3, _⟩, ⟨d3, _⟩⟩ := HQ3.out.facts3
    refine ⟨.tuple #[.agg #[.string ⟨#[]⟩, .slice none 0 0, .slice none 0 0], .int .i64 p, .int .i64 x], by simp [results, Tryd.results46, go_sem, a3, aa3, ab3, b3, d3], ?_⟩
    unfold OutP
    rw [HF.out, hn]
    exact ⟨HQ3.out.d.drew, rfl⟩
  | ok ts =>
    have HF : Hid (readF ruleF s.data.toList = endF (ruleF ts)) := by unfold Hid readF; rw [hlx]
    have HEN := Lib.hid (lexF_end hlx)
    have HLN := Lib.hid (lexF_len hlx)
    clear hlx
    rintro e w1 ⟨hb, g, cap, he, hown⟩
    subst he
    have HQ1 := Lib.hid (HQ0.out.grow (grown_of_below hb none) (fun k hk => by cases hk))
    have hlp : 0 < ts.length := List.length_pos_iff.2 HEN.out.ne
    have HTK := Lib.hid (Tk.of_own hown hlp)
    have HGL := Lib.hid (hown.lt g rfl)
    have HQL := Lib.hid (heap_lt HQ0.out.c)
    have HB := Lib.hid hb
    clear hb hown
    obtain ⟨⟨a1, aa1, ab1, y1, yy1, yz1⟩, ⟨b1, b2⟩, ⟨d1, d2⟩⟩ := HQ1.out.facts3
    generalize w.heap.size + 1 + 1 = q2 at *
    generalize w.heap.size + 1 = q1 at *
    have h01 : w.heap.size ≠ q1 := by have := HQ1.out.e1; omega
    have h02 : w.heap.size ≠ q2 := by have := HQ1.out.e2; omega
    have h12 : q1 ≠ q2 := by have := HQ1.out.e1; have := HQ1.out.e2; omega
    generalize hn : w.heap.size = n at *
    go_wp2_with fail
    have HQ2 := Lib.hid ((HQ1.out.set1 (.int .i64 0)).set2 (.int .i64 0))
    have hsz : ((w1.setCell ⟨q1, 0, none⟩ (.int .i64 0)).setCell ⟨q2, 0, none⟩ (.int .i64 0)).heap.size = w1.heap.size := by simp
    have HTK2 : Hid (Tk ((w1.setCell ⟨q1, 0, none⟩ (.int .i64 0)).setCell ⟨q2, 0, none⟩ (.int .i64 0)) g ts) := by
      have h1 := HGL.out.1
      have h2 := HQL.out
      have h3 := HQ1.out.e1
      have h4 := HQ1.out.e2
      exact HTK.out.keep ((Below.heap_setCell _ _ _ _ (by simp; omega)).trans (Below.heap_setCell _ _ _ _ (by simp; omega))) (by omega)
    have hgl := HGL.out.2
    have hql : q2 < w1.heap.size := heap_lt HQ1.out.c
    have hqg : q2 < g := by have h1 := HGL.out.1; have h2 := HQL.out; omega
    clear HQ1 HTK HGL HQL HB HQ0 a1 aa1 ab1 y1 yy1 yz1 b1 b2 d1 d2
    generalize (w1.setCell ⟨q1, 0, none⟩ (.int .i64 0)).setCell ⟨q2, 0, none⟩ (.int .i64 0) = w2 at *
    have hRD : Rd (w2.alloc (.cells #[.slice (some ⟨g, 0, none⟩) ts.length cap, .int .i64 0] 95)) w1.heap.size g cap ts ts 0 :=
      ⟨hlp, rfl, by rw [← hsz]; exact heap_alloc_new _ _, HTK2.out.keep (Below.heap_alloc _ _ _ (by omega)) (by simp), by omega, HLN.out, HEN.out⟩
    have HRD := Lib.hid hRD
    have HQ3 := Lib.hid (HQ2.out.grow (World.grownBy_alloc w2 (.cells #[.slice (some ⟨g, 0, none⟩) ts.length cap, .int .i64 0] 95) none) (fun k hk => by cases hk))
    have hs3 : (w2.alloc (.cells #[.slice (some ⟨g, 0, none⟩) ts.length cap, .int .i64 0] 95)).heap.size = w1.heap.size + 1 := by simp [hsz]
    clear hRD HQ2 HTK2 hsz
    generalize w2.alloc (.cells #[.slice (some ⟨g, 0, none⟩) ts.length cap, .int .i64 0] 95) = w3 at *
    generalize w1.heap.size = rb at *
    refine (rule_any w3 rb g cap ts ts 0 HRD.out).mono ?_
    cases hpf : ruleF ts with
    | err p x =>
      rw [hpf] at HF
      clear hpf
      rintro e' w4 ⟨rfl, hg4⟩
      have HQ4 := Lib.hid (HQ3.out.grow hg4 (fun k hk => by injection hk; omega))
      refine leaves_cons (f := 64) (args := #[.pointer (some ⟨n, 0, none⟩), .pointer (some ⟨q1, 0, none⟩), .pointer (some ⟨q2, 0, none⟩)]) (by simp) (by simp [go_sem]) ?_
      refine (rc_rule n q1 q2 HQ4.out.e1 HQ4.out.e2 p x [] w4 _ _ _ _ _ _ HQ4.out.a HQ4.out.b HQ4.out.c).mono ?_
      rintro e u' w5 ⟨rfl, rfl, c0_0, c0_1, c0_2, c1, c2, hb5⟩
      refine ⟨.tuple #[.agg #[.string ⟨#[]⟩, .slice none 0 0, .slice none 0 0], .int .i64 p, .int .i64 x], by simp [results, Tryd.results46, go_sem, c0_0, c0_1, c0_2, c1, c2], ?_⟩
      unfold OutP
      rw [HF.out, hn]
      exact ⟨HQ4.out.d.trans hb5, rfl⟩
    | ok l rest =>
      rw [hpf] at HF
      clear hpf
      rintro e' w4 ⟨x, rfl, hsl, ⟨⟨i4, hr4⟩, hg4⟩⟩
      obtain ⟨nm, A, cp, a, A2, cap2, rfl, _⟩ := hsl.form
      have HQ4 := Lib.hid (HQ3.out.grow hg4 (fun k hk => by injection hk; omega))
      obtain ⟨⟨a1, aa1, ab1, y1, yy1, yz1⟩, ⟨b1, b2⟩, ⟨d1, d2⟩⟩ := HQ4.out.facts3
      have HQ5 : Hid (Q3 w (((w4.setCell ⟨n, 0, none⟩ (.string (bs nm))).setCell ⟨n, 1, none⟩ (.slice A a.length cp)).setCell ⟨n, 2, none⟩ (.slice A2 l.body.length cap2)) n q1 q2 [.string (bs nm), .slice A a.length cp, .slice A2 l.body.length cap2] _ _ _) := (((HQ4.out.set0 0 (.string (bs nm))).set0 1 (.slice A a.length cp)).set0 2 (.slice A2 l.body.length cap2))
      have he1 := HQ4.out.e1
      have he2 := HQ4.out.e2
      have HR5 := Lib.hid (hr4.other (w' := (((w4.setCell ⟨n, 0, none⟩ (.string (bs nm))).setCell ⟨n, 1, none⟩ (.slice A a.length cp)).setCell ⟨n, 2, none⟩ (.slice A2 l.body.length cap2))) (grown_trans (grown_trans (grown_set _ n 0 _) (grown_set _ n 1 _)) (grown_set _ n 2 _)) (by omega) (by omega))
      have HS5 : Hid (RuV (((w4.setCell ⟨n, 0, none⟩ (.string (bs nm))).setCell ⟨n, 1, none⟩ (.slice A a.length cp)).setCell ⟨n, 2, none⟩ (.slice A2 l.body.length cap2)) (fun b => q2 < b) [.string (bs nm), .slice A a.length cp, .slice A2 l.body.length cap2] l) := keeps_ru _ _ _ _ _ _ hsl (fun b hb hlt => ⟨by omega, ((Below.heap_setCell _ _ _ _ (by simp; omega)).trans ((Below.heap_setCell _ _ _ _ (by simp; omega)).trans (Below.heap_setCell _ _ _ _ (by simp; omega))))⟩) (by simp)
      clear hsl hr4 hg4 HQ3 HRD he1 he2
      go_wp2_with fail
      clear a1 aa1 ab1 y1 yy1 yz1 b1 b2 d1 d2 HQ4
      generalize (((w4.setCell ⟨n, 0, none⟩ (.string (bs nm))).setCell ⟨n, 1, none⟩ (.slice A a.length cp)).setCell ⟨n, 2, none⟩ (.slice A2 l.body.length cap2)) = w5 at *
      clear w4
      have f0 := fld0
      refine (token_any HR5.out).mono ?_
      rintro e w6 ⟨rfl, hb6⟩
      have HQ6 := Lib.hid (HQ5.out.grow (grown_of_below hb6 none) (fun k hk => by cases hk))
      have HR6 := Lib.hid (HR5.out.below hb6)
      have HS6 : Hid (RuV w6 (fun b => q2 < b) [.string (bs nm), .slice A a.length cp, .slice A2 l.body.length cap2] l) := keeps_ru _ _ _ _ _ _ HS5.out (fun b hb hlt => ⟨hb, hb6.block b hlt⟩) hb6.size
      clear hb6 HQ5 HR5 HS5
      cases hk0 : (hd rest).kind == 0 with
      | true =>
        have HF2 : Hid (readF ruleF s.data.toList = .ok l) := by unfold Hid; rw [HF.out]; unfold endF; simp only []; rw [if_pos hk0]
        clear HF
        generalize (hd rest).kind = kd at *
        obtain ⟨⟨a1, aa1, ab1, y1, yy1, yz1⟩, ⟨b1, b2⟩, ⟨d1, d2⟩⟩ := HQ6.out.facts3
        go_wp2_with fail
        have HQ7 : Hid (Q3 w (((((w6.setCell ⟨n, 0, none⟩ (.string (bs nm))).setCell ⟨n, 1, none⟩ (.slice A a.length cp)).setCell ⟨n, 2, none⟩ (.slice A2 l.body.length cap2)).setCell ⟨q1, 0, none⟩ (.int .i64 0)).setCell ⟨q2, 0, none⟩ (.int .i64 0)) n q1 q2 [.string (bs nm), .slice A a.length cp, .slice A2 l.body.length cap2] _ _ _) := ((((HQ6.out.set0 0 (.string (bs nm))).set0 1 (.slice A a.length cp)).set0 2 (.slice A2 l.body.length cap2)).set1 (.int .i64 0)).set2 (.int .i64 0)
        have HS7 : Hid (RuV (((((w6.setCell ⟨n, 0, none⟩ (.string (bs nm))).setCell ⟨n, 1, none⟩ (.slice A a.length cp)).setCell ⟨n, 2, none⟩ (.slice A2 l.body.length cap2)).setCell ⟨q1, 0, none⟩ (.int .i64 0)).setCell ⟨q2, 0, none⟩ (.int .i64 0)) (fun b => q2 < b) [.string (bs nm), .slice A a.length cp, .slice A2 l.body.length cap2] l) := by
          have e1 := HQ6.out.e1
          have e2 := HQ6.out.e2
          exact keeps_ru _ _ _ _ _ _ HS6.out (fun b hb hlt => ⟨hb, ((Below.heap_setCell _ _ _ _ (by simp; omega)).trans ((Below.heap_setCell _ _ _ _ (by simp; omega)).trans ((Below.heap_setCell _ _ _ _ (by simp; omega)).trans ((Below.heap_setCell _ _ _ _ (by simp; omega)).trans (Below.heap_setCell _ _ _ _ (by simp; omega))))))⟩) (by simp)
        clear HQ6 HS6 HR6 a1 aa1 ab1 y1 yy1 yz1 b1 b2 d1 d2
        generalize ((((w6.setCell ⟨n, 0, none⟩ (.string (bs nm))).setCell ⟨n, 1, none⟩ (.slice A a.length cp)).setCell ⟨n, 2, none⟩ (.slice A2 l.body.length cap2)).setCell ⟨q1, 0, none⟩ (.int .i64 0)).setCell ⟨q2, 0, none⟩ (.int .i64 0) = w7 at *
        refine leaves_cons (f := 64) (args := #[.pointer (some ⟨n, 0, none⟩), .pointer (some ⟨q1, 0, none⟩), .pointer (some ⟨q2, 0, none⟩)]) (by simp) (by simp [go_sem]) ?_
        refine (ri_rule n q1 q2 w7).mono ?_
        rintro e u' w8 ⟨rfl, rfl, hb8⟩
        have HQ8 := HQ7.out.grow (grown_of_below hb8 none) (fun k hk => by cases hk)
        obtain ⟨⟨a1, aa1, ab1, y1, yy1, yz1⟩, ⟨b1, _⟩, ⟨d1, _⟩⟩ := HQ8.facts3
        refine ⟨.tuple #[.agg #[.string (bs nm), .slice A a.length cp, .slice A2 l.body.length cap2], .int .i64 0, .int .i64 0], by simp [results, Tryd.results46, go_sem, a1, aa1, ab1, b1, d1], ?_⟩
        unfold OutP
        rw [HF2.out, hn]
        refine ⟨HQ8.d, _, rfl, [.string (bs nm), .slice A a.length cp, .slice A2 l.body.length cap2], rfl, keeps_ru _ _ _ _ _ _ HS7.out (fun b hb hlt => ⟨by have := HQ8.e2; omega, hb8.block b hlt⟩) hb8.size⟩
      | false =>
        have HF2 : Hid (readF ruleF s.data.toList = .err (hd rest).pos 1) := by unfold Hid; rw [HF.out]; unfold endF; simp only []; rw [if_neg (by rw [hk0]; exact Bool.false_ne_true)]
        clear HF
        generalize (hd rest).kind = kd at *
        go_wp2_with fail
        refine (fail_any HR6.out 1).mono ?_
        rintro e' w7 ⟨rfl, hb7⟩
        have HQ7 := Lib.hid (HQ6.out.grow (grown_of_below hb7 none) (fun k hk => by cases hk))
        refine leaves_cons (f := 64) (args := #[.pointer (some ⟨n, 0, none⟩), .pointer (some ⟨q1, 0, none⟩), .pointer (some ⟨q2, 0, none⟩)]) (by simp) (by simp [go_sem]) ?_
        refine (rc_rule n q1 q2 HQ7.out.e1 HQ7.out.e2 (hd rest).pos 1 [] w7 _ _ _ _ _ _ HQ7.out.a HQ7.out.b HQ7.out.c).mono ?_
        rintro e u' w8 ⟨rfl, rfl, c0_0, c0_1, c0_2, c1, c2, hb8⟩
        refine ⟨.tuple #[.agg #[.string ⟨#[]⟩, .slice none 0 0, .slice none 0 0], .int .i64 (hd rest).pos, .int .i64 1], by simp [results, Tryd.results46, go_sem, c0_0, c0_1, c0_2, c1, c2], ?_⟩
        unfold OutP
        rw [HF2.out, hn]
        exact ⟨HQ7.out.d.trans hb8, rfl⟩

end Go.Proofs.YthkbnjojkeeffaaDoor
