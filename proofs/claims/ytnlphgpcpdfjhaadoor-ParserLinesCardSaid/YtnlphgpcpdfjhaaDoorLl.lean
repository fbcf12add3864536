/- The walk of the law ParserLines. -/
import Derived.Test.YtnlphgpcpdfjhaaDoorLw
import Derived.Test.YtnlphgpcpdfjhaaDoorEz
import Derived.Laws.AppendOwnNone
namespace Go.Proofs.YtnlphgpcpdfjhaaDoor
open Go Go.RowKit
set_option linter.unusedSimpArgs false

theorem run_append_none {P : Program} {w : World} (base : Nat) (t ty e : TypeId) (i : TypeInfo) (size : Nat) (ht : P.underlying t = some (.slice e)) (hi : P.info? e = some i)
    (v : Value) (n c : Nat) (xs : List Value) (hown : w.ownsRow base e size v n xs) : (Builtin.append_ #[t, t] ty #[v, .slice none 0 c]).run P w = .ok v w := by
  rcases hown.2 with ⟨rfl, rfl⟩ | ⟨g, cap, cur, rfl, _, _, hnc, _⟩
  · simp [Builtin.append_, run_underlying ht, sizeOf, typeInfo, hi, Builtin.lenOf, Builtin.firstCells]
  · simp [Builtin.append_, run_underlying ht, sizeOf, typeInfo, hi, Builtin.lenOf, Builtin.firstCells, hnc, storeCells]

/-- append of whatever slice, the operation guarded or not -/
theorem wpList_app {P : Program} {ops : Array Oper} {rest : List Oper} {o : Oper} {a : Act} {w : World} {Q : Exit → Act → World → Prop} (hg : Region.wanted o (yielded ops a.tmps) = true) (s x : Operand) (t : TypeId)
    (ho : o.op = .call { callee := .builtin .append, args := #[s, x], argTypes := #[t, t] })
    (base : Nat) (e : TypeId) (i : TypeInfo) (z : Value) (size bytes : Nat) (ht : P.underlying t = some (.slice e)) (hi : P.info? e = some i) (hz : i.zero = some z)
    (hsize : i.size = size) (hby : i.bytes = bytes) (hzs : z.cells.size = size) (hsz : 0 < size)
    (v : Value) (n : Nat) (xs : List Value) (hs : a.eval s = v) (hown : w.ownsRow base e size v n xs)
    (A : Option Addr) (m c : Nat) (news : List Value) (hx : a.eval x = .slice A m c) (hl : news.length = m * size) (hnews : 0 < m → ∃ ad, A = some ad ∧ ∀ j u, news[j]? = some u → w.cell? (ad.add j) = some u) (h1 : ∀ u ∈ news, u.oneCell' = true)
    (h63 : n + m ≤ maxLen) (hbytes : (n + m) * bytes ≤ 140737488355328) (hbase : base ≤ w.heap.size)
    (h : ∀ v' w', w'.ownsRow base e size v' (n + m) (xs ++ news) → w.grownBy w' v.ownBlock → wpList P ops Q rest (a.put o.dst v') w') : wpList P ops Q (o :: rest) a w := by
  unfold wpList
  rw [if_pos hg]
  left
  cases A with
  | some ad =>
    refine wp_append_own w s x t ho base e i z size bytes ht hi hz hsize hby hzs hsz v n xs hs hown ad m c news hx hl (fun j u hj => ?_) h1 h63 hbytes hbase (fun v' w' h2 h3 _ => h v' w' h2 h3)
    have hm : 0 < m := by
      rcases Nat.eq_zero_or_pos m with rfl | hm
      · rw [Nat.zero_mul] at hl
        have := (List.getElem?_eq_some_iff.1 hj).1
        omega
      · exact hm
    obtain ⟨ad', he, hc⟩ := hnews hm
    cases he
    exact hc j u hj
  | none =>
    have hm : m = 0 := by
      rcases Nat.eq_zero_or_pos m with hm | hm
      · exact hm
      · obtain ⟨ad', he, _⟩ := hnews hm; cases he
    subst hm
    have hnil : news = [] := List.length_eq_zero_iff.1 (by rw [hl, Nat.zero_mul])
    subst hnil
    have hrun := run_append_none (P := P) (w := w) base t o.type e i size ht hi v n c xs hown
    unfold Oper.wp
    simp [execOp, ho, resolve, invoke, builtin, hs, hx, hrun, Result.andThen]
    have := h v w (by simpa using hown) (World.grownBy.refl w _)
    exact this

theorem cat_size (s s1 : ByteArray) : (s ++ ⟨#[10]⟩ ++ s1).size = s.size + 1 + s1.size := by
  rw [ByteArray.size_append, ByteArray.size_append]; rfl
theorem flatten_len {sz : Nat} : ∀ (xs : List (List Value)) (_ : ∀ x ∈ xs, x.length = sz), xs.flatten.length = xs.length * sz
  | [], _ => by simp
  | x :: xs, h => by
    rw [List.flatten_cons, List.length_append, flatten_len xs (fun y hy => h y (List.mem_cons_of_mem _ hy)), h x (by simp), List.length_cons, Nat.succ_mul]; omega
theorem flatten_inv {sz : Nat} : ∀ (xs : List (List Value)) (_ : ∀ x ∈ xs, x.length = sz) (j : Nat) (u : Value), xs.flatten[j]? = some u → ∃ i k x, xs[i]? = some x ∧ x[k]? = some u ∧ j = i * sz + k
  | [], _, j, u, h => by simp at h
  | y :: xs, hl, j, u, h => by
    have hy := hl y (by simp)
    rw [List.flatten_cons] at h
    rcases Nat.lt_or_ge j y.length with hj | hj
    · rw [List.getElem?_append_left hj] at h
      exact ⟨0, j, y, rfl, h, by omega⟩
    · rw [List.getElem?_append_right hj] at h
      obtain ⟨i, k, x, h1, h2, h3⟩ := flatten_inv xs (fun z hz => hl z (List.mem_cons_of_mem _ hz)) _ u h
      exact ⟨i + 1, k, x, by simpa using h1, h2, by rw [Nat.succ_mul]; omega⟩

/-- the cells of a slice of rules -/
theorem SlV.rows {w : World} {P : Nat → Prop} {A : Option Addr} {l : List Ru} (h : SlV RuV 3 w P A l) :
    ∃ xs : List (List Value), xs.length = l.length ∧ (∀ x ∈ xs, x.length = 3) ∧ (∀ u ∈ xs.flatten, u.oneCell' = true) ∧ (∀ (i : Nat) (x : List Value) (a : Ru), xs[i]? = some x → l[i]? = some a → RuV w P x a) ∧
      (0 < l.length → ∃ b o, A = some ⟨b, o, none⟩ ∧ b < w.heap.size ∧ ∀ j u, xs.flatten[j]? = some u → w.cell? ⟨b, o + j, none⟩ = some u) := by
  obtain ⟨xs, h1, h2, h3⟩ := h
  have hsh : ∀ x ∈ xs, ∃ (nm : List UInt8) (A : Option Addr) (n cap : Nat) (A2 : Option Addr) (n2 cap2 : Nat), x = [.string (bs nm), .slice A n cap, .slice A2 n2 cap2] := by
    intro x hx
    obtain ⟨i, hi, rfl⟩ := List.getElem_of_mem hx
    obtain ⟨nm, A, cap, a, A2, cap2, he, _⟩ := (h3 i _ (l[i]'(by omega)) (List.getElem?_eq_getElem hi) (List.getElem?_eq_getElem (by omega))).form
    exact ⟨_, _, _, _, _, _, _, he⟩
  have hl3 : ∀ x ∈ xs, x.length = 3 := by
    intro x hx
    obtain ⟨_, _, _, _, _, _, _, rfl⟩ := hsh x hx
    rfl
  refine ⟨xs, h1, hl3, fun u hu => ?_, h3, fun hp => ?_⟩
  · obtain ⟨x, hx, hu⟩ := List.mem_flatten.1 hu
    obtain ⟨_, _, _, _, _, _, _, rfl⟩ := hsh x hx
    simp only [List.mem_cons, List.not_mem_nil, or_false] at hu
    rcases hu with rfl | rfl | rfl <;> rfl
  · obtain ⟨b, o, hA, _, hb, hc⟩ := h2 (by omega)
    refine ⟨b, o, hA, hb, fun j u hj => ?_⟩
    obtain ⟨i, k, x, hx, hk, rfl⟩ := flatten_inv xs hl3 j u hj
    rw [← Nat.add_assoc]
    exact hc i x hx k u hk
theorem rows_both {w : World} {P : Nat → Prop} {xa xb : List (List Value)} {la lb : List Ru} (hl : xa.length = la.length) (ha : ∀ (i : Nat) (x : List Value) (a : Ru), xa[i]? = some x → la[i]? = some a → RuV w P x a)
    (hb : ∀ (i : Nat) (x : List Value) (a : Ru), xb[i]? = some x → lb[i]? = some a → RuV w P x a) : ∀ (i : Nat) (x : List Value) (a : Ru), (xa ++ xb)[i]? = some x → (la ++ lb)[i]? = some a → RuV w P x a := by
  intro i x a hx hy
  rcases Nat.lt_or_ge i xa.length with hi | hi
  · rw [List.getElem?_append_left hi] at hx
    rw [List.getElem?_append_left (by omega)] at hy
    exact ha i x a hx hy
  · rw [List.getElem?_append_right hi] at hx
    rw [List.getElem?_append_right (by omega)] at hy
    rw [← hl] at hy
    exact hb _ x a hx hy
/-- an owned row read as a slice of rules -/
theorem rows_sl {w : World} {base n : Nat} {e : TypeId} {v : Value} {xs : List (List Value)} {l : List Ru} (hown : w.ownsRow base e 3 v n xs.flatten) (hn : n = l.length) (hxl : xs.length = l.length) (hl : ∀ x ∈ xs, x.length = 3)
    (hR : ∀ (i : Nat) (x : List Value) (a : Ru), xs[i]? = some x → l[i]? = some a → RuV w (fun _ => True) x a) : ∃ A cp, v = .slice A l.length cp ∧ SlV RuV 3 w (fun _ => True) A l := by
  subst hn
  rcases hown.2 with ⟨rfl, h0⟩ | ⟨g, cap, cur, rfl, _⟩
  · exact ⟨none, 0, by rw [h0], xs, hxl, fun hp => by omega, hR⟩
  · refine ⟨_, cap, rfl, xs, hxl, fun hp => ?_, hR⟩
    obtain ⟨g', cp, hv, hb, hlt⟩ := hown.form (by omega)
    have hg : g = g' := by injection hv with hv; injection hv with hv; injection hv
    subst hg
    refine ⟨g, 0, rfl, trivial, hlt, fun i x hx j u hu => ?_⟩
    have := hown.cells (g := g) rfl _ u (flatten_get xs hl i j x u hx hu)
    rw [← this]
    congr 1
    unfold Addr.add; split <;> simp_all

set_option maxHeartbeats 8000000 in
set_option maxRecDepth 100000 in
theorem law_lines (w : World) (s s1 : ByteArray) (hs : s.size ≤ 9223372036854775807) (hs1 : s1.size ≤ 9223372036854775807) (hw : Wd w) : Calls Tryd.prog 7 #[.string s, .string s1] w (YesP w) := by
  have HW := Lib.hid hw
  clear hw
  by_cases hl : (1000 : Int) < (s.size : Int)
  · go_enter Tryd.func7, Tryd.ntmps7
    go_wp2_with fail
    refine (awake_any w HW.out).mono ?_
    rintro e w1 ⟨rfl, hb⟩
    go_wp2_with fail
    go_ret
    exact ⟨rfl, hb⟩
  have hl' : decide ((1000 : Int) < (s.size : Int)) = false := by simpa using hl
  clear hl
  by_cases hl : (1000 : Int) < (s1.size : Int)
  · go_enter Tryd.func7, Tryd.ntmps7
    go_wp2_with fail
    refine (awake_any w HW.out).mono ?_
    rintro e w1 ⟨rfl, hb⟩
    go_wp2_with fail
    go_ret
    exact ⟨rfl, hb⟩
  have hl1' : decide ((1000 : Int) < (s1.size : Int)) = false := by simpa using hl
  clear hl
  have HPA := fun w hw => (parse_any w s hs hw).mono (fun e w' h => out_un ([] : List Ru) (vl_nil RuV 3 _ _) h)
  have HPB := fun w hw => (parse_any w s1 hs1 hw).mono (fun e w' h => out_un ([] : List Ru) (vl_nil RuV 3 _ _) h)
  have HPA := Lib.hid HPA
  have HPB := Lib.hid HPB
  by_cases hok : outE (parseF s.data.toList) = 0 ∧ outE (parseF s1.data.toList) = 0 ∧ (outA [] (parseF s.data.toList)).length + (outA [] (parseF s1.data.toList)).length ≤ 128
  rotate_left
  · have hm : (outE (parseF s.data.toList) != 0) = true ∨ ((outE (parseF s.data.toList) != 0) = false ∧ (outE (parseF s1.data.toList) != 0) = true) ∨ ((outE (parseF s.data.toList) != 0) = false ∧ (outE (parseF s1.data.toList) != 0) = false ∧ (128 : Int) < ((outA [] (parseF s.data.toList)).length : Int) + ((outA [] (parseF s1.data.toList)).length : Int)) := by
      cases h1 : (outE (parseF s.data.toList) != 0) with
      | true => exact .inl rfl
      | false =>
        cases h2 : (outE (parseF s1.data.toList) != 0) with
        | true => exact .inr (.inl ⟨rfl, rfl⟩)
        | false =>
          refine .inr (.inr ⟨rfl, rfl, ?_⟩)
          rw [bne_eq_false_iff_eq] at h1 h2
          have := fun h => hok ⟨h1, h2, h⟩
          omega
    have hsa := (parse_small s.data.toList).2
    have hsb := (parse_small s1.data.toList).2
    clear hok
    generalize outE (parseF s.data.toList) = ea at *
    generalize outE (parseF s1.data.toList) = eb at *
    generalize outN (parseF s.data.toList) = na at *
    generalize outN (parseF s1.data.toList) = nb at *
    generalize outA [] (parseF s.data.toList) = la at *
    generalize outA [] (parseF s1.data.toList) = lb at *
    have hsa' : (la.length : Int) ≤ 128 := by omega
    have hsb' : (lb.length : Int) ≤ 128 := by omega
    clear hsa hsb
    rcases hm with hm | ⟨hm1, hm2⟩ | ⟨hm1, hm2, hm3⟩
    all_goals
      go_enter Tryd.func7, Tryd.ntmps7
      go_wp2_with fail
      refine (HPA.out w HW.out).mono ?_
      rintro e w1 ⟨hb1, v, rfl, A, cp, rfl, _⟩
      have HB1 := Lib.hid hb1
      have HW1 := Lib.hid (HW.out.below hb1 HW.out.1)
      clear hb1
      go_wp2_with fail
      refine (HPB.out w1 HW1.out).mono ?_
      rintro e w2 ⟨hb2, v, rfl, A2, cp2, rfl, _⟩
      have HB2 := Lib.hid (HB1.out.trans (hb2.mono HB1.out.size))
      have HW2 := Lib.hid (HW1.out.below hb2 HW1.out.1)
      clear hb2
      go_wp2_with fail
      refine (awake_any w2 HW2.out).mono ?_
      rintro e w3 ⟨rfl, hb3⟩
      have HB3 := Lib.hid (HB2.out.trans (hb3.mono HB2.out.size))
      clear hb3
      go_wp2_with fail
      go_ret
      exact ⟨rfl, HB3.out⟩
  · obtain ⟨h1, h2, h3⟩ := hok
    obtain ⟨la, hla⟩ : ∃ la, parseF s.data.toList = .ok la := by
      cases h : parseF s.data.toList with
      | ok v => exact ⟨v, rfl⟩
      | err p e => rw [h] at h1; exact absurd h1 (nz_parse h)
    obtain ⟨lb, hlb⟩ : ∃ lb, parseF s1.data.toList = .ok lb := by
      cases h : parseF s1.data.toList with
      | ok v => exact ⟨v, rfl⟩
      | err p e => rw [h] at h2; exact absurd h2 (nz_parse h)
    rw [hla] at HPA h3
    rw [hlb] at HPB h3
    have h3 : la.length + lb.length ≤ 128 := h3
    have hz0 : s.size ≤ 1000 := by have := of_decide_eq_false hl'; omega
    have hz1 : s1.size ≤ 1000 := by have := of_decide_eq_false hl1'; omega
    have hcat := parse_lines hla hlb h3 (by simp; omega)
    have hva := (parse_valid hla).2
    have hvb := (parse_valid hlb).2
    have HRS : Hid (∀ r ∈ la ++ lb, RuS r) := fun r hr => (List.mem_append.1 hr).elim (fun h => rus_valid (hva r h)) (fun h => rus_valid (hvb r h))
    have HCAT := Lib.hid hcat
    have h3' : (la.length : Int) + (lb.length : Int) ≤ 128 := by omega
    simp only [outE, outN, outA] at HPA HPB
    clear h1 h2 hla hlb hcat hva hvb
    go_enter Tryd.func7, Tryd.ntmps7
    go_wp2_with fail
    refine (HPA.out w HW.out).mono ?_
    rintro e w1 ⟨hb1, v, rfl, A, cp, rfl, hsa⟩
    have HB1 := Lib.hid hb1
    have HW1 := Lib.hid (HW.out.below hb1 HW.out.1)
    have HSA := Lib.hid hsa
    clear hb1 hsa
    go_wp2_with fail
    refine (HPB.out w1 HW1.out).mono ?_
    rintro e w2 ⟨hb2, v, rfl, A2, cp2, rfl, hsb⟩
    have HB2 := Lib.hid (HB1.out.trans (hb2.mono HB1.out.size))
    have HW2 := Lib.hid (HW1.out.below hb2 HW1.out.1)
    have HSA2 := Lib.hid (HSA.out.below keeps_ru hb2)
    have HSB := Lib.hid hsb
    clear hb2 hsb HSA HB1 HW1
    go_wp2_with fail
    have hpc : Calls Tryd.prog 12 #[.string (s ++ ⟨#[10]⟩ ++ s1)] w2 (OutP (VL RuV 3) (.slice none 0 0) w2 (.ok (la ++ lb))) := by
      have h := parse_any w2 (s ++ ⟨#[10]⟩ ++ s1) (by rw [cat_size]; omega) HW2.out
      rw [show (s ++ ⟨#[10]⟩ ++ s1).data.toList = s.data.toList ++ 10 :: s1.data.toList from by simp, HCAT.out] at h
      exact h
    refine hpc.mono ?_
    rintro e w3 ⟨hb3, v, rfl, A3, cp3, rfl, hsc⟩
    have HB3 := Lib.hid (HB2.out.trans (hb3.mono HB2.out.size))
    have HW3 := Lib.hid (HW2.out.below hb3 HW2.out.1)
    have HSA3 := Lib.hid (HSA2.out.below keeps_ru hb3)
    have HSB3 := Lib.hid (HSB.out.below keeps_ru hb3)
    have HSC := Lib.hid hsc
    clear hb3 hsc hpc HSA2 HSB HB2 HW2
    obtain ⟨xa, ha1, ha2, ha3, ha4, ha5⟩ := HSA3.out.rows
    obtain ⟨xb, hb1, hb2, hb3, hb4, hb5⟩ := HSB3.out.rows
    have hal : Below w3.heap.size w3 (w3.alloc (.cells #[] 34)) := (Below.refl _ _).alloc (Nat.le_refl _) _
    have HAL := Lib.hid hal
    have HA := Lib.hid (And.intro ha1 (And.intro ha2 (And.intro ha3 (And.intro ha4 ha5))))
    have HB := Lib.hid (And.intro hb1 (And.intro hb2 (And.intro hb3 (And.intro hb4 hb5))))
    have hown0 := World.ownsRow_lit (e := 34) (size := 3) (base := w3.heap.size) w3 #[] 0 (Nat.le_refl _) (by decide) (by simp)
    have HOWN0 := Lib.hid hown0
    have HCL : Hid (∀ (wx : World), Below w3.heap.size w3 wx → 0 < la.length → ∃ ad, A = some ad ∧ ∀ j u, xa.flatten[j]? = some u → wx.cell? (ad.add j) = some u) := by
      intro wx hb hp
      obtain ⟨b, o, rfl, hlt, hc⟩ := ha5 hp
      exact ⟨_, rfl, fun j u hj => by rw [Addr.add_lit]; exact (hb.cell (p := ⟨b, o + j, none⟩) hlt).trans (hc j u hj)⟩
    have HCM : Hid (∀ (wx : World), Below w3.heap.size w3 wx → 0 < lb.length → ∃ ad, A2 = some ad ∧ ∀ j u, xb.flatten[j]? = some u → wx.cell? (ad.add j) = some u) := by
      intro wx hb hp
      obtain ⟨b, o, rfl, hlt, hc⟩ := hb5 hp
      exact ⟨_, rfl, fun j u hj => by rw [Addr.add_lit]; exact (hb.cell (p := ⟨b, o + j, none⟩) hlt).trans (hc j u hj)⟩
    have hlen12 : la.length + lb.length ≤ 128 := h3
    obtain ⟨i0, hi0, hz0', hz1', hz2'⟩ := info_parts infoRule
    have HI0 := Lib.hid hi0; have HZ0 := Lib.hid hz0'; have HZ1 := Lib.hid hz1'; have HZ2 := Lib.hid hz2'
    clear hi0 hz0' hz1' hz2' ha1 ha2 ha3 ha4 ha5 hb1 hb2 hb3 hb4 hb5 hal hown0
    have hal2 : w3.heap.size ≤ (w3.alloc (.cells #[] 34)).heap.size := HAL.out.size
    have e1 : 0 + la.length ≤ maxLen := by unfold maxLen; omega
    have e2 : (0 + la.length) * 64 ≤ 140737488355328 := by omega
    have e3 : la.length + lb.length ≤ maxLen := by unfold maxLen; omega
    have e4 : (la.length + lb.length) * 64 ≤ 140737488355328 := by omega
    have e5 : xa.flatten.length = la.length * 3 := by rw [flatten_len xa HA.out.2.1, HA.out.1]
    have e6 : xb.flatten.length = lb.length * 3 := by rw [flatten_len xb HB.out.2.1, HB.out.1]
    have E1 := Lib.hid e1; have E2 := Lib.hid e2; have E3 := Lib.hid e3; have E4 := Lib.hid e4; have E5 := Lib.hid e5; have E6 := Lib.hid e6; have HL2 := Lib.hid hal2
    clear e1 e2 e3 e4 e5 e6 hal2 hlen12
    go_wp2_with (refine wpList_app (by rfl) (.tmp 67) (.tmp 68) 23 (by rfl) w3.heap.size 34 i0 _ 3 64 Tryd.underlying23 HI0.out HZ0.out HZ1.out HZ2.out rfl (by omega) (.slice (some ⟨w3.heap.size, 0, none⟩) 0 0) 0 [] (by rfl) HOWN0.out A la.length cp xa.flatten (by rfl) E5.out (HCL.out _ HAL.out) HA.out.2.2.1 E1.out E2.out HL2.out ?_)
    intro v1 w5 hown1 hgr1
    have HO1 := Lib.hid hown1
    have HG1 := Lib.hid (HAL.out.grown hgr1 HL2.out (fun k hk => by have h : some w3.heap.size = some k := hk; injection h; omega))
    clear hown1 hgr1
    go_wp2_with (refine wpList_app (by rfl) (.tmp 69) (.tmp 70) 23 (by rfl) w3.heap.size 34 i0 _ 3 64 Tryd.underlying23 HI0.out HZ0.out HZ1.out HZ2.out rfl (by omega) v1 la.length xa.flatten (by rfl) HO1.out A2 lb.length cp2 xb.flatten (by rfl) E6.out (HCM.out _ HG1.out) HB.out.2.2.1 E3.out E4.out HG1.out.size ?_)
    intro v2 w6 hown2 hgr2
    have HO2 := Lib.hid hown2
    have HG2 := Lib.hid (HG1.out.grown hgr2 HG1.out.size (fun k hk => (HO1.out.lt k hk).1))
    clear hown2 hgr2
    obtain ⟨A4, cp4, rfl, hs4⟩ := rows_sl (xs := xa ++ xb) (l := la ++ lb) (by rw [List.flatten_append]; exact HO2.out) (by simp) (by simp [HA.out.1, HB.out.1]) (fun x hx => (List.mem_append.1 hx).elim (HA.out.2.1 x) (HB.out.2.1 x)) (rows_both HA.out.1 (fun i x a h1 h2 => keeps_ru _ _ _ (fun _ => True) _ _ (HA.out.2.2.2.1 i x a h1 h2) (fun b _ hlt => ⟨trivial, HG2.out.block b hlt⟩) HG2.out.size) (fun i x a h1 h2 => keeps_ru _ _ _ (fun _ => True) _ _ (HB.out.2.2.2.1 i x a h1 h2) (fun b _ hlt => ⟨trivial, HG2.out.block b hlt⟩) HG2.out.size))
    have HS4 := Lib.hid hs4
    clear hs4
    go_wp2_with fail
    have hlab : (la ++ lb).length < 4611686018427387904 := by rw [List.length_append]; omega
    have hpl := plRulesV HRS.out hlab w6 _ _ A3 A4 cp3 cp4 (HSC.out.below keeps_ru HG2.out) HS4.out
    rw [List.length_append] at hpl
    (with_reducible refine hpl.mono ?_)
    clear hpl hlab
    rintro e w7 ⟨rfl, hb7⟩
    have HB7 := Lib.hid (HB3.out.trans ((HG2.out.trans (hb7.mono HG2.out.size)).mono HB3.out.size))
    have HW7 := Lib.hid (HW3.out.below (HG2.out.trans (hb7.mono HG2.out.size)) HW3.out.1)
    clear hb7
    go_wp2_with fail
    refine (awake_any w7 HW7.out).mono ?_
    rintro e w8 ⟨rfl, hb8⟩
    have HB8 := Lib.hid (HB7.out.trans (hb8.mono HB7.out.size))
    clear hb8
    go_wp2_with fail
    go_ret
    exact ⟨rfl, HB8.out⟩
end Go.Proofs.YtnlphgpcpdfjhaaDoor
