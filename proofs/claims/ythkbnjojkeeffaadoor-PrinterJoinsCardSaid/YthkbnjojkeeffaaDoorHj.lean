/- The law PrinterJoins. -/
import Derived.Test.YthkbnjojkeeffaaDoorHf
import Derived.Maps.AppendAt
import Derived.Deep.AppendLies
import Derived.OwnWalk
namespace Go.Proofs.YthkbnjojkeeffaaDoor
open Go Go.RowKit Go.Shelf
set_option linter.unusedSimpArgs false
set_option maxRecDepth 100000

/-- an append whose run is known -/
theorem wpList_app {P : Program} {ops : Array Oper} {rest : List Oper} {o : Oper} {a : Act} {Q : Exit → Act → World → Prop} (hgd : o.guard = none) (s x : Operand) (t : TypeId)
    (ho : o.op = .call { callee := .builtin .append, args := #[s, x], argTypes := #[t, t] }) (v u v' : Value) (w w' : World) (hs : a.eval s = v) (hx : a.eval x = u)
    (hrun : (Builtin.append_ #[t, t] o.type #[v, u]).run P w = .ok v' w') (h : wpList P ops Q rest (a.put o.dst v') w') : wpList P ops Q (o :: rest) a w := by
  refine wpList_plain hgd fun K hK => ?_
  unfold Oper.wp execOp
  simp only [ho, resolve, invoke, builtin, Sem.run_bind, Sem.run_pure, Result.andThen_ok, List.map_toArray, List.map_cons, List.map_nil, hs, hx, hrun]
  exact hK _ _ h
theorem infoRu : (Tryd.prog.info? 27).map (fun i => (i.zero, i.size, i.bytes)) = some (some (.agg #[.string ⟨#[]⟩, .slice none 0 0, .slice none 0 0]), 3, 64) := by kernel_rfl
set_option maxRecDepth 100000 in
/-- the elements of a list of rules behind those that a row of the call's own holds -/
theorem app_rules (w : World) (P : Nat → Prop) (base : Nat) (g n cap : Nat) (xs : List Value) (hown : w.ownsRow base 27 3 (.slice (some ⟨g, 0, none⟩) n cap) n xs) (A : Option Addr) (cp : Nat) (ys : List (List Value)) (ha : Arr w P A 3 ys) (h3 : ∀ y ∈ ys, y.length = 3) (h1 : ∀ y ∈ ys, ∀ u ∈ y, u.oneCell' = true)
    (hm : n + ys.length ≤ 100000) (hbase : base ≤ w.heap.size) :
    ∃ g' cap' w', (Builtin.append_ #[37, 37] 37 #[.slice (some ⟨g, 0, none⟩) n cap, .slice A ys.length cp]).run Tryd.prog w = .ok (.slice (some ⟨g', 0, none⟩) (n + ys.length) cap') w' ∧
      w'.ownsRow base 27 3 (.slice (some ⟨g', 0, none⟩) (n + ys.length) cap') (n + ys.length) (xs ++ ys.flatten) ∧ w.grownBy w' (some g) ∧ (g' = g ∨ g' = w.heap.size) := by
  obtain ⟨i0, hi, hz0, hz1, hz2⟩ := info_parts infoRu
  have hfl : ys.flatten.length = ys.length * 3 := by
    clear ha h1 hm
    induction ys with
    | nil => rfl
    | cons y ys ih => rw [List.flatten_cons, List.length_append, h3 y (by simp), ih (fun z hz => h3 z (by simp [hz])), List.length_cons, Nat.succ_mul]; omega
  rcases A with _ | ad
  · have hn : ys = [] := by
      rcases Nat.eq_zero_or_pos ys.length with h | h
      · exact List.eq_nil_of_length_eq_zero h
      · obtain ⟨b, o, h', _⟩ := ha h
        cases h'
    subst hn
    rcases hown.2 with ⟨h, _⟩ | ⟨g2, cap2, cur, hv, _, hh, hnc, _⟩
    · cases h
    · injection hv with hg hn2 hc2
      subst hc2
      refine ⟨g, cap, w, ?_, by simpa using hown, World.grownBy.refl w _, .inl rfl⟩
      simp [Builtin.append_, run_underlying Tryd.underlying37, sizeOf, typeInfo, hi, Builtin.lenOf, Builtin.firstCells, hnc, storeCells]
  · have hc : ∀ j u, ys.flatten[j]? = some u → w.cell? (ad.add j) = some u := by
      intro j u hu
      have hj : j < ys.flatten.length := (List.getElem?_eq_some_iff.1 hu).1
      have hpos : 0 < ys.length := by omega
      obtain ⟨b, o, he, _, _, hcell⟩ := ha hpos
      injection he with he
      subst he
      have hq : j / 3 < ys.length := by omega
      have hx := List.getElem?_eq_getElem hq
      have hr : j % 3 < (ys[j / 3]).length := by rw [h3 _ (List.getElem_mem hq)]; omega
      have hu2 := List.getElem?_eq_getElem hr
      have hf := flatten_get ys h3 (j / 3) (j % 3) _ _ hx hu2
      have hjj : j / 3 * 3 + j % 3 = j := by omega
      rw [hjj, hu] at hf
      injection hf with hf
      have := hcell _ _ hx _ _ hu2
      rw [← hf] at this
      rw [← this]
      congr 1
      unfold Addr.add
      by_cases hz : j = 0
      · subst hz; simp
      · rw [if_neg hz]; simp; omega
    have h1' : ∀ u ∈ ys.flatten, u.oneCell' = true := by
      intro u hu
      obtain ⟨y, hy, huy⟩ := List.mem_flatten.1 hu
      exact h1 y hy u huy
    obtain ⟨v', w', hrun, h2, h3', _, h5⟩ := run_append_own_at (P := Tryd.prog) w base 37 37 27 i0 _ 3 64 Tryd.underlying37 hi hz0 hz1 hz2 rfl (by decide) _ n xs hown ad ys.length cp ys.flatten hfl hc h1' (by unfold maxLen; omega) (by omega) hbase
    have h5' : v'.ownBlock = some g ∨ v'.ownBlock = some w.heap.size := h5
    rcases h2.2 with ⟨rfl, _⟩ | ⟨g', cap', cur, rfl, hrest⟩
    · rcases h5' with h | h <;> cases h
    · refine ⟨g', cap', w', hrun, h2, h3', ?_⟩
      rcases h5' with h | h
      · left; injection h
      · right; injection h
theorem rulesT_app (l m : List Ru) : rulesT (l ++ m) = rulesT l ++ rulesT m := by
  induction l with
  | nil => rfl
  | cons r l ih => rw [List.cons_append, rulesT, rulesT, ih]; simp
/-- the cells of a list of rules, each of one value -/
theorem ru_cells3 {w : World} {P : Nat → Prop} {l : List Ru} {xs : List (List Value)} (hl : xs.length = l.length) (hel : ∀ (i : Nat) (x : List Value) (a : Ru), xs[i]? = some x → l[i]? = some a → RuV w P x a) : (∀ y ∈ xs, y.length = 3) ∧ ∀ y ∈ xs, ∀ u ∈ y, u.oneCell' = true := by
  have h : ∀ y ∈ xs, ∃ nm A cp l A2 n2 cp2, y = [.string (bs nm), .slice A l cp, .slice A2 n2 cp2] := by
    intro y hy
    obtain ⟨i, hi, rfl⟩ := List.getElem_of_mem hy
    obtain ⟨y', A2, cp2, he, ht, _⟩ := hel i _ (l[i]'(by omega)) (List.getElem?_eq_getElem hi) (List.getElem?_eq_getElem (by omega))
    obtain ⟨nm, A, cp, l', rfl, _⟩ := ht.form
    exact ⟨nm, A, cp, _, A2, _, cp2, he⟩
  refine ⟨fun y hy => ?_, fun y hy u hu => ?_⟩
  · obtain ⟨nm, A, cp, l, A2, n2, cp2, rfl⟩ := h y hy
    rfl
  · obtain ⟨nm, A, cp, l, A2, n2, cp2, rfl⟩ := h y hy
    simp only [List.mem_cons, List.not_mem_nil, or_false] at hu
    rcases hu with rfl | rfl | rfl <;> rfl
/-- what the two appends leave -/
structure AllW (w w2 : World) (g : Nat) (l m : List Ru) : Prop where
  b : Below w.heap.size w w2
  s : SlV RuV 3 w2 (· < w2.heap.size) (some ⟨g, 0, none⟩) (l ++ m)
theorem all_ready (w : World) (A A' : Option Addr) (cp cp' : Nat) (l m : List Ru) (ha : SlV RuV 3 w (· < w.heap.size) A l) (hb : SlV RuV 3 w (· < w.heap.size) A' m) (hl : l.length ≤ 60) (hm : m.length ≤ 60) :
    ∃ g1 c1 w1 g2 c2 w2, (Builtin.append_ #[37, 37] 37 #[.slice (some ⟨w.heap.size, 0, none⟩) 0 0, .slice A l.length cp]).run Tryd.prog (w.alloc (.cells #[] 27)) = .ok (.slice (some ⟨g1, 0, none⟩) l.length c1) w1 ∧
      (Builtin.append_ #[37, 37] 37 #[.slice (some ⟨g1, 0, none⟩) l.length c1, .slice A' m.length cp']).run Tryd.prog w1 = .ok (.slice (some ⟨g2, 0, none⟩) (l ++ m).length c2) w2 ∧ AllW w w2 g2 l m := by
  have hb0 : Below w.heap.size w (w.alloc (.cells #[] 27)) := (Below.refl _ _).alloc (Nat.le_refl _) _
  have hown0 : (w.alloc (.cells #[] 27)).ownsRow w.heap.size 27 3 (.slice (some ⟨w.heap.size, 0, none⟩) 0 0) 0 [] :=
    ⟨by simp, .inr ⟨w.heap.size, 0, #[], rfl, Nat.le_refl _, heap_alloc_new w _, Nat.le_refl _, by unfold maxLen; omega, rfl, rfl⟩⟩
  obtain ⟨xs, hxl, hxa, hxe⟩ := ha
  obtain ⟨ys, hyl, hya, hye⟩ := hb
  obtain ⟨x3, x1⟩ := ru_cells3 hxl hxe
  obtain ⟨y3, y1⟩ := ru_cells3 hyl hye
  obtain ⟨g1, c1, w1, hr1, ho1, hg1, he1⟩ := app_rules (w.alloc (.cells #[] 27)) (fun b => b < w.heap.size) w.heap.size w.heap.size 0 0 [] hown0 A cp xs (hxa.keep (fun b hp hlt => ⟨hp, hb0.block b hlt⟩) hb0.size) x3 x1 (by omega) hb0.size
  have hb1 : Below w.heap.size w w1 := hb0.grown hg1 hb0.size (fun k hk => by injection hk with hk; omega)
  obtain ⟨g2, c2, w2, hr2, ho2, hg2, he2⟩ := app_rules w1 (fun b => b < w.heap.size) w.heap.size g1 _ c1 _ ho1 A' cp' ys (hya.keep (fun b hp hlt => ⟨hp, hb1.block b hlt⟩) hb1.size) y3 y1 (by omega) hb1.size
  have hb2 : Below w.heap.size w w2 := hb1.grown hg2 hb1.size (fun k hk => by
    injection hk with hk
    subst hk
    rcases he1 with h | h
    · omega
    · rw [h]; exact hb0.size)
  rw [hxl] at hr1
  rw [Nat.zero_add] at hr1 hr2 ho2
  rw [hxl, hyl] at hr2 ho2
  rw [List.nil_append] at ho2
  have hlen : (l ++ m).length = l.length + m.length := List.length_append
  rw [← hlen] at hr2 ho2
  refine ⟨g1, c1, w1, g2, c2, w2, hr1, hr2, hb2, xs ++ ys, by simp [hxl, hyl], fun _ => ?_, fun i x a hx hal => ?_⟩
  · have hlt : g2 < w2.heap.size := by
      rcases ho2.2 with ⟨h, _⟩ | ⟨g, cap, cur, hv, _, hh, _⟩
      · cases h
      · injection hv with hv
        injection hv with hv
        injection hv with hv
        subst hv
        exact heap_lt hh
    refine ⟨g2, 0, rfl, hlt, hlt, fun i x hx j u hu => ?_⟩
    have hf := flatten_get (xs ++ ys) (fun y hy => by rcases List.mem_append.1 hy with h | h; exact x3 y h; exact y3 y h) i j x u hx hu
    rw [List.flatten_append] at hf
    have := ho2.cells (g := g2) rfl _ u hf
    rw [← this]
    congr 1
    unfold Addr.add
    split <;> simp_all
  · have hk : ∀ b, b < w.heap.size → b < w.heap.size → b < w2.heap.size ∧ w2.heap[b]? = w.heap[b]? := fun b h1 _ => ⟨Nat.lt_of_lt_of_le h1 hb2.size, hb2.block b h1⟩
    rcases Nat.lt_or_ge i xs.length with hi | hi
    · rw [List.getElem?_append_left hi] at hx
      rw [List.getElem?_append_left (by omega)] at hal
      exact keeps_ru _ _ _ _ _ _ (hxe i x a hx hal) hk hb2.size
    · rw [List.getElem?_append_right hi] at hx
      rw [List.getElem?_append_right (by omega)] at hal
      rw [hxl] at hx
      exact keeps_ru _ _ _ _ _ _ (hye _ x a hx hal) hk hb2.size

set_option maxHeartbeats 8000000 in
theorem law_joins (w : World) (hW : Wd w) (A : Option Addr) (cp : Nat) (l : List Ru) (A' : Option Addr) (cp' : Nat) (m : List Ru) (ha : SlV RuV 3 w (· < w.heap.size) A l) (hr : ∀ r ∈ l, RuB r) (hlen : l.length ≤ 9223372036854775807)
    (hb : SlV RuV 3 w (· < w.heap.size) A' m) (hs : ∀ r ∈ m, RuB r) (hlem : m.length ≤ 9223372036854775807) :
    Calls Tryd.prog 9 #[.slice A l.length cp, .slice A' m.length cp'] w (YesP w) := by
  have HW := Lib.hid hW
  have CA := Lib.hid (fun (y : World) (hy : Below w.heap.size w y) => awake_any y (HW.out.below hy HW.out.1))
  clear hW
  by_cases h2 : 60 < l.length
  · have e1 : decide ((60 : Int) < (l.length : Int)) = true := decide_eq_true (by omega)
    clear ha hb hr hs
    go_enter Tryd.func9, Tryd.ntmps9
    go_wp2_with fail
    refine (CA.out w (Below.refl _ _)).mono ?_
    rintro e w1 ⟨rfl, hb⟩
    go_wp2_with fail
    go_ret
    exact ⟨rfl, hb⟩
  have e1 : decide ((60 : Int) < (l.length : Int)) = false := decide_eq_false (by omega)
  by_cases h3 : 60 < m.length
  · have e2 : decide ((60 : Int) < (m.length : Int)) = true := decide_eq_true (by omega)
    clear ha hb hr hs
    go_enter Tryd.func9, Tryd.ntmps9
    go_wp2_with fail
    refine (CA.out w (Below.refl _ _)).mono ?_
    rintro e w1 ⟨rfl, hb⟩
    go_wp2_with fail
    go_ret
    exact ⟨rfl, hb⟩
  have e2 : decide ((60 : Int) < (m.length : Int)) = false := decide_eq_false (by omega)
  have CL := Lib.hid (fun (y : World) (hy : Below w.heap.size w y) => prules_any y (· < w.heap.size) A cp l (ha.keep keeps_ru (fun b hp hb => ⟨hp, hy.block b hb⟩) hy.size) (fun b hp => Nat.lt_of_lt_of_le hp hy.size) hlen hr)
  have CM := Lib.hid (fun (y : World) (hy : Below w.heap.size w y) => prules_any y (· < w.heap.size) A' cp' m (hb.keep keeps_ru (fun b hp hb => ⟨hp, hy.block b hb⟩) hy.size) (fun b hp => Nat.lt_of_lt_of_le hp hy.size) hlem hs)
  obtain ⟨g1, c1, w1, g2, c2, w2, hr1, hr2, hall⟩ := all_ready w A A' cp cp' l m ha hb (by omega) (by omega)
  have hra : ∀ r ∈ l ++ m, RuB r := fun r h => by
    rcases List.mem_append.1 h with h | h
    · exact hr r h
    · exact hs r h
  have hal : (l ++ m).length ≤ 9223372036854775807 := by rw [List.length_append]; omega
  have CU := Lib.hid (fun (y : World) (hy : Below w2.heap.size w2 y) => prules_any y (· < w2.heap.size) (some ⟨g2, 0, none⟩) c2 (l ++ m) (hall.s.keep keeps_ru (fun b hp hb => ⟨hp, hy.block b hb⟩) hy.size) (fun b hp => Nat.lt_of_lt_of_le hp hy.size) hal hra)
  have HOL := Lib.hid (rulesO_cases l)
  have HOM := Lib.hid (rulesO_cases m)
  have HOA := Lib.hid (rulesO_cases (l ++ m))
  have HTA := Lib.hid (rulesT_app l m)
  have HB2 := Lib.hid hall.b
  obtain ⟨xs', hxl, harr, hel⟩ := hall.s
  have HV := Lib.hid (And.intro hxl (And.intro harr (And.intro hel hra)))
  have R1 := Lib.hid hr1
  have R2 := Lib.hid hr2
  clear ha hb hr hs hr1 hr2 hall hra hxl harr hel h2 h3
  generalize hall : l ++ m = al at *
  have HAL := Lib.hid hall
  clear hall
  go_enter Tryd.func9, Tryd.ntmps9
  go_wp2_with (first
    | (at_builtin; refine wpList_app rfl (.tmp 22) (.tmp 23) 37 rfl _ _ _ _ w1 rfl rfl R1.out ?_)
    | (at_builtin; refine wpList_app rfl (.tmp 24) (.tmp 25) 37 rfl _ _ _ _ w2 rfl rfl R2.out ?_))
  clear e1 e2 R1 R2
  go_loopw [6] (fun i wr => ∃ k : Nat, k ≤ al.length ∧ i = .int .i64 k ∧ Hid (Below w2.heap.size w2 wr)) (fun i _ => al.length - (intOf i).toNat)
  case atStart => exact ⟨0, Nat.zero_le _, rfl, Below.refl _ _⟩
  case round =>
    obtain ⟨k, hk, rfl, HI⟩ := hrel
    have HB0 := Lib.hid (HB2.out.trans (HI.out.mono HB2.out.size))
    by_cases hlk : k < al.length
    rotate_left
    focus
      obtain rfl : k = al.length := by omega
      rcases HOL.out with ⟨kl, hkl, hol⟩ | ⟨hol, _, _, h16l, _, _⟩
      · rw [hol] at CL
        simp only at CL
        have e1 : ((kl : Int) == 0) = false := by simpa using hkl
        have e2 : ((kl : Int) != 0) = true := by simpa using hkl
        generalize (rulesO m) = om at *
        generalize (rulesO al) = oa at *
        clear hol hkl HOL HOM HOA
        generalize (kl : Int) = kl at *
        go_wp2_with fail
        refine (CL.out _ HB0.out).mono ?_
        rintro e w3 ⟨rfl, hb⟩
        have HB3 := Lib.hid (HB0.out.trans (hb.mono HB0.out.size))
        have HI3 := Lib.hid (HI.out.trans (hb.mono HI.out.size))
        clear hb
        go_wp2_with fail
        refine (CM.out _ HB3.out).mono ?_
        rintro e w4 ⟨rfl, hb⟩
        have HB4 := Lib.hid (HB3.out.trans (hb.mono HB3.out.size))
        have HI4 := Lib.hid (HI3.out.trans (hb.mono HI3.out.size))
        clear hb
        go_wp2_with fail
        refine (CU.out _ HI4.out).mono ?_
        rintro e w5 ⟨rfl, hb⟩
        have HB5 := Lib.hid (HB4.out.trans (hb.mono HB4.out.size))
        clear hb
        go_wp2_with fail
        refine (CA.out _ HB5.out).mono ?_
        rintro e w6 ⟨rfl, hb⟩
        have HB6 := Lib.hid (HB5.out.trans (hb.mono HB5.out.size))
        clear hb
        go_wp2_with fail
        go_ret
        exact ⟨rfl, HB6.out⟩
      rcases HOM.out with ⟨km, hkm, hom⟩ | ⟨hom, _, _, h16m, _, _⟩
      · rw [hol] at CL
        rw [hom] at CM
        simp only at CL CM
        have e1 : ((km : Int) == 0) = false := by simpa using hkm
        have e2 : ((km : Int) != 0) = true := by simpa using hkm
        generalize (rulesO al) = oa at *
        clear hol hkm hom HOL HOM HOA h16l
        generalize (km : Int) = km at *
        generalize bs (rulesT l) = sl at *
        go_wp2_with fail
        refine (CL.out _ HB0.out).mono ?_
        rintro e w3 ⟨rfl, hb⟩
        have HB3 := Lib.hid (HB0.out.trans (hb.mono HB0.out.size))
        have HI3 := Lib.hid (HI.out.trans (hb.mono HI.out.size))
        clear hb
        go_wp2_with fail
        refine (CM.out _ HB3.out).mono ?_
        rintro e w4 ⟨rfl, hb⟩
        have HB4 := Lib.hid (HB3.out.trans (hb.mono HB3.out.size))
        have HI4 := Lib.hid (HI3.out.trans (hb.mono HI3.out.size))
        clear hb
        go_wp2_with fail
        refine (CU.out _ HI4.out).mono ?_
        rintro e w5 ⟨rfl, hb⟩
        have HB5 := Lib.hid (HB4.out.trans (hb.mono HB4.out.size))
        clear hb
        go_wp2_with fail
        refine (CA.out _ HB5.out).mono ?_
        rintro e w6 ⟨rfl, hb⟩
        have HB6 := Lib.hid (HB5.out.trans (hb.mono HB5.out.size))
        clear hb
        go_wp2_with fail
        go_ret
        exact ⟨rfl, HB6.out⟩
      rcases HOA.out with ⟨ka, hka, hoa⟩ | ⟨hoa, _, _, _, _, _⟩
      · rw [hol] at CL
        rw [hom] at CM
        rw [hoa] at CU
        simp only at CL CM CU
        have e1 : ((ka : Int) == 0) = false := by simpa using hka
        have e2 : ((ka : Int) != 0) = true := by simpa using hka
        clear hol hka hom hoa HOL HOM HOA h16l h16m
        generalize (ka : Int) = ka at *
        generalize bs (rulesT l) = sl at *
        generalize bs (rulesT m) = sm at *
        go_wp2_with fail
        refine (CL.out _ HB0.out).mono ?_
        rintro e w3 ⟨rfl, hb⟩
        have HB3 := Lib.hid (HB0.out.trans (hb.mono HB0.out.size))
        have HI3 := Lib.hid (HI.out.trans (hb.mono HI.out.size))
        clear hb
        go_wp2_with fail
        refine (CM.out _ HB3.out).mono ?_
        rintro e w4 ⟨rfl, hb⟩
        have HB4 := Lib.hid (HB3.out.trans (hb.mono HB3.out.size))
        have HI4 := Lib.hid (HI3.out.trans (hb.mono HI3.out.size))
        clear hb
        go_wp2_with fail
        refine (CU.out _ HI4.out).mono ?_
        rintro e w5 ⟨rfl, hb⟩
        have HB5 := Lib.hid (HB4.out.trans (hb.mono HB4.out.size))
        clear hb
        go_wp2_with fail
        refine (CA.out _ HB5.out).mono ?_
        rintro e w6 ⟨rfl, hb⟩
        have HB6 := Lib.hid (HB5.out.trans (hb.mono HB5.out.size))
        clear hb
        go_wp2_with fail
        go_ret
        exact ⟨rfl, HB6.out⟩
      · rw [hol] at CL
        rw [hom] at CM
        rw [hoa, HTA.out] at CU
        simp only at CL CM CU
        have hadd : ∀ y : World, (Op.stringOp .add (bs (rulesT l)) (bs (rulesT m))).run Tryd.prog y = .ok (.string (bs (rulesT l ++ rulesT m))) y := fun y => str_add_l _ _ (by omega)
        clear hol hom hoa HOL HOM HOA h16l h16m
        generalize bs (rulesT l ++ rulesT m) = sa at *
        generalize bs (rulesT l) = sl at *
        generalize bs (rulesT m) = sm at *
        go_wp2_with fail
        refine (CL.out _ HB0.out).mono ?_
        rintro e w3 ⟨rfl, hb⟩
        have HB3 := Lib.hid (HB0.out.trans (hb.mono HB0.out.size))
        have HI3 := Lib.hid (HI.out.trans (hb.mono HI.out.size))
        clear hb
        go_wp2_with fail
        refine (CM.out _ HB3.out).mono ?_
        rintro e w4 ⟨rfl, hb⟩
        have HB4 := Lib.hid (HB3.out.trans (hb.mono HB3.out.size))
        have HI4 := Lib.hid (HI3.out.trans (hb.mono HI3.out.size))
        clear hb
        go_wp2_with fail
        refine (CU.out _ HI4.out).mono ?_
        rintro e w5 ⟨rfl, hb⟩
        have HB5 := Lib.hid (HB4.out.trans (hb.mono HB4.out.size))
        clear hb
        go_wp2_with fail
        refine (CA.out _ HB5.out).mono ?_
        rintro e w6 ⟨rfl, hb⟩
        have HB6 := Lib.hid (HB5.out.trans (hb.mono HB5.out.size))
        clear hb
        go_wp2_with fail
        go_ret
        exact ⟨rfl, HB6.out⟩
    obtain ⟨r, hr⟩ : ∃ r, al[k]? = some r := ⟨_, List.getElem?_eq_getElem hlk⟩
    obtain ⟨x, hx⟩ : ∃ x, xs'[k]? = some x := ⟨_, List.getElem?_eq_getElem (by rw [HV.out.1]; exact hlk)⟩
    have hv := HV.out.2.2.1 k x r hx hr
    have hrw := HV.out.2.2.2 _ (List.mem_of_getElem? hr)
    obtain ⟨hd, body⟩ := r
    obtain ⟨y', A2, cp2, rfl, hvt, hsl⟩ := hv
    obtain ⟨nm', A3, cp3, l', rfl, hh⟩ := hvt.form
    simp only at hh hvt hsl
    subst hh
    obtain ⟨b0, o0, hbo, hb0, hbl, hc⟩ := HV.out.2.1 (by rw [HV.out.1]; omega)
    injection hbo with hbo
    injection hbo with hbo1 hbo2
    subst hbo1
    subst hbo2
    simp only [Nat.zero_add] at hc
    have f0 := (HI.out.cell (p := ⟨g2, k * 3, none⟩) hbl).trans (hc k _ hx 0 _ rfl)
    have f1 := (HI.out.cell (p := ⟨g2, k * 3 + 1, none⟩) hbl).trans (hc k _ hx 1 _ rfl)
    have f2 := (HI.out.cell (p := ⟨g2, k * 3 + 2, none⟩) hbl).trans (hc k _ hx 2 _ rfl)
    have CF := Lib.hid (few_any wr (· < w2.heap.size) nm' A3 cp3 l' A2 cp2 body (hvt.keep (fun b' hp hb' => ⟨hp, HI.out.block b' hb'⟩) HI.out.size) (hsl.keep keeps_li (fun b' hp hb' => ⟨hp, HI.out.block b' hb'⟩) HI.out.size) hrw.head hrw.len hrw.lits)
    clear hvt hsl hx hc hr hrw hbl hb0 HOL HOM HOA HTA CL CM CU
    go_wp2_with fail
    refine CF.out.mono ?_
    rintro e w3 ⟨q1, rfl, hb⟩
    have HB3 := Lib.hid (HB0.out.trans (hb.mono HB0.out.size))
    have HI3 := Lib.hid (HI.out.trans (hb.mono HI.out.size))
    clear hb f0 f1 f2
    cases q1
    · go_wp2_with fail
      refine (CA.out _ HB3.out).mono ?_
      rintro e w4 ⟨rfl, hb⟩
      have HB4 := Lib.hid (HB3.out.trans (hb.mono HB3.out.size))
      clear hb
      go_wp2_with fail
      go_ret
      exact ⟨rfl, HB4.out⟩
    · go_wp2_with fail
      go_roundw
      case rel => exact ⟨k + 1, by omega, by go_num, HI3.out⟩
      case measure => simp [intOf]; omega
end Go.Proofs.YthkbnjojkeeffaaDoor
