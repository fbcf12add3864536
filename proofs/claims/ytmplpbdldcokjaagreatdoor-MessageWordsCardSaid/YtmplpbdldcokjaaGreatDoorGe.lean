/- The walks of printer.Terms and the reference's Terms. -/
import Derived.Test.YtmplpbdldcokjaaGreatDoorGd
namespace Go.Proofs.YtmplpbdldcokjaaGreatDoor
open Go Go.RowKit Go.Shelf
set_option linter.unusedSimpArgs false

theorem join_snoc (sep : List UInt8) (xs : List (List UInt8)) (x : List UInt8) : Lib.join (xs ++ [x]) sep = if xs.isEmpty then x else Lib.join xs sep ++ sep ++ x := by
  cases xs with
  | nil => simp [Lib.join_one]
  | cons a r => rw [List.cons_append, Lib.join_cons, Lib.join_cons]; simp [Lib.joinTail]
theorem infoStr : (Tryz.prog.info? 9).map (fun i => (i.zero, i.size, i.bytes)) = some (some (.string ⟨#[]⟩), 1, 16) := by kernel_rfl
def strCells (l : List (List UInt8)) : List Value := l.map fun x => .string (bs x)
/-- what a slice of strings that the call appended to gives to strings.Join -/
theorem sjoin_any (sep : List UInt8) (w : World) (B : Nat) (v : Value) (xs : List (List UInt8)) (hown : w.ownsRow B 9 1 v xs.length (strCells xs)) (hn : xs.length ≤ 1000000000) (hm : (Lib.join xs sep).length ≤ 140737488355328) :
    Calls Tryz.prog 36 #[v, .string (bs sep)] w (OutB w (.string (bs (Lib.join xs sep)))) := by
  have hx : (xs.map bs).map (·.data.toList) = xs := by rw [List.map_map]; exact List.map_id'' (fun x => toList_bs x) xs
  cases xs with
  | nil =>
    obtain ⟨c, g, rfl⟩ : ∃ c g, v = .slice g 0 c := by
      rcases hown.2 with ⟨hv, _⟩ | ⟨g, cap, cur, hv, _⟩
      · exact ⟨_, _, hv⟩
      · exact ⟨_, _, hv⟩
    exact (strings_Join_none g c (bs sep) w).mono fun e w' h => ⟨h.1, by rw [h.2]; exact Below.refl _ _⟩
  | cons x r =>
    obtain ⟨g, cap, rfl, _, hlt⟩ := hown.form (by simp)
    have hcap : (x :: r).length ≤ cap := by
      rcases hown.2 with ⟨hv, _⟩ | ⟨g', cap', cur, hv, _, _, hc, _⟩
      · cases hv
      · injection hv with _ _ hc2
        omega
    have hc := hown.cells (g := g) rfl
    have := strings_Join g 0 cap ((x :: r).map bs) (bs sep) w (fun j y hy => by
      have h1 := hc j (.string y) (by unfold strCells; rw [List.getElem?_map] at hy ⊢; cases hz : (x :: r)[j]? with | none => rw [hz] at hy; simp at hy | some z => rw [hz] at hy; simp at hy ⊢; exact hy)
      rw [Nat.zero_add]
      have hadd : (⟨g, 0, none⟩ : Addr).add j = ⟨g, j, none⟩ := by unfold Addr.add; split <;> simp_all
      rwa [hadd] at h1) hlt (by simp at hn ⊢; omega) (by simpa using hcap) (by rw [hx, toList_bs]; exact hm)
    rw [hx, List.length_map, toList_bs] at this
    exact this
theorem own_keep {w w' : World} {base : Nat} {e : TypeId} {size : Nat} {v : Value} {n : Nat} {xs : List Value} (h : w.ownsRow base e size v n xs) (hb : Below w.heap.size w w') : w'.ownsRow base e size v n xs :=
  ⟨h.1, h.2.imp id fun ⟨g, cap, cur, hv, hbs, hg, r⟩ => ⟨g, cap, cur, hv, hbs, (hb.block g (Array.getElem?_eq_some_iff.1 hg).1).trans hg, r⟩⟩
/-- the texts of terms -/
def txs (l : List Tm) : List (List UInt8) := l.map textT
theorem txs_take {l : List Tm} {k : Nat} {t : Tm} (h : l[k]? = some t) : txs (l.take (k + 1)) = txs (l.take k) ++ [textT t] := by
  obtain ⟨h1, h2⟩ := List.getElem?_eq_some_iff.1 h
  unfold txs
  rw [List.take_succ_eq_append_getElem h1, h2, List.map_append]
  rfl

set_option maxHeartbeats 4000000 in
set_option maxRecDepth 100000 in
theorem terms_text (w : World) (P : Nat → Prop) (A : Option Addr) (ca : Nat) (l : List Tm) (hl : l.length ≤ 1000000000) (ha : SlV TmV 2 w P A l) (hP : ∀ b, P b → b < w.heap.size) (hw : ∀ t ∈ l, wT t ≤ 400000000) (hm : (Lib.join (txs l) [44, 32]).length ≤ 1000000000) :
    Calls Tryz.prog 34 #[.slice A l.length ca] w (OutB w (.string (bs (Lib.join (txs l) [44, 32])))) := by
  obtain ⟨i0, hi0, hz0, hz1, hz2⟩ := info_parts infoStr
  obtain ⟨xs', hxl, harr, hel⟩ := ha
  have HV := Lib.hid (And.intro hxl (And.intro harr (And.intro hel (And.intro hP hw))))
  have HM := Lib.hid hm
  have HI0 := Lib.hid hi0
  have HZ0 := Lib.hid hz0
  have HZ1 := Lib.hid hz1
  have HZ2 := Lib.hid hz2
  clear hxl harr hel hP hw hm hi0 hz0 hz1 hz2
  go_enter Tryz.func34, Tryz.ntmps34
  go_wp2_with fail
  go_loopw [3, 8] (fun v i wr => ∃ k : Nat, k ≤ l.length ∧ i = .int .i64 k ∧ Hid (wr.ownsRow w.heap.size 9 1 v (txs (l.take k)).length (strCells (txs (l.take k))) ∧ Below w.heap.size w wr)) (fun _ i _ => l.length - (intOf i).toNat)
  case atStart => exact ⟨0, Nat.zero_le _, rfl, World.ownsRow_nil _ _ _ _, Below.refl _ _⟩
  case round =>
    obtain ⟨k, hk, rfl, HI⟩ := hrel
    by_cases hlk : k < l.length
    rotate_left
    focus
      obtain rfl : k = l.length := by omega
      rw [List.take_length] at HI
      have hlen : (txs l).length ≤ 1000000000 := by unfold txs; rw [List.length_map]; exact hl
      have HJ := Lib.hid (sjoin_any [44, 32] wr w.heap.size _ (txs l) HI.out.1 hlen (Nat.le_trans HM.out (by omega)))
      clear hlen
      go_wp2_with fail
      refine HJ.out.mono ?_
      rintro e9 w9 ⟨rfl, hb⟩
      have HE := Lib.hid (HI.out.2.trans (hb.mono HI.out.2.size))
      clear hb HJ
      go_wp2_with fail
      go_ret
      exact ⟨rfl, HE.out⟩
    obtain ⟨t, ht⟩ : ∃ t, l[k]? = some t := ⟨_, List.getElem?_eq_getElem hlk⟩
    obtain ⟨x, hx⟩ : ∃ x, xs'[k]? = some x := ⟨_, List.getElem?_eq_getElem (by rw [HV.out.1]; exact hlk)⟩
    have hv := HV.out.2.2.1 k x t hx ht
    obtain ⟨nm', A', cp', l', rfl, rfl⟩ := hv.form
    obtain ⟨b0, o0, rfl, hb0, hbl, hc⟩ := HV.out.2.1 (by rw [HV.out.1]; omega)
    have f0 := (HI.out.2.cell (p := ⟨b0, o0 + k * 2, none⟩) hbl).trans (hc k _ hx 0 _ rfl)
    have f1 := (HI.out.2.cell (p := ⟨b0, o0 + k * 2 + 1, none⟩) hbl).trans (hc k _ hx 1 _ rfl)
    have HST := Lib.hid (txs_take ht)
    have hwt := HV.out.2.2.2.2 _ (List.mem_of_getElem? ht)
    have HB3 := Lib.hid (one_box wr (.cells #[.string (bs nm'), .slice A' l'.length cp'] 25))
    have CT := Lib.hid (fun (y : World) (hy : Below w.heap.size w y) => text_any y P (.mk nm' l') nm' A' cp' l' rfl (hv.keep (fun b' hp hb' => ⟨hp, hy.block b' hb'⟩) hy.size) (fun b' hp => Nat.lt_of_lt_of_le (HV.out.2.2.2.1 b' hp) hy.size) hwt)
    have hlen : (txs (l.take k)).length ≤ 1000000000 := by
      have h2 := List.length_take_le k l
      unfold txs
      rw [List.length_map]
      omega
    have hsz : w.heap.size ≤ wr.heap.size := HI.out.2.size
    have HO1 := Lib.hid (HI.out.1.alloc (.cells #[.string (bs nm'), .slice A' l'.length cp'] 25))
    have HB1 := Lib.hid (HI.out.2.trans (HB3.out.1.mono hsz))
    clear hv hx hc ht hwt HI
    generalize hn : (txs (l.take k)).length = n at *
    have HN := Lib.hid hn
    clear hn
    go_wp2_with fail
    generalize wr.alloc (.cells #[.string (bs nm'), .slice A' l'.length cp'] 25) = w3 at *
    refine (CT.out w3 HB1.out).mono ?_
    rintro e w4 ⟨rfl, hb⟩
    have HO2 := Lib.hid ((own_keep HO1.out hb).alloc (.cells #[.string (bs (textT (.mk nm' l')))] 9))
    have HB4 := Lib.hid (HB1.out.trans (hb.mono HB1.out.size))
    have hsz4 : w.heap.size ≤ w4.heap.size := HB4.out.size
    clear hb HO1 HB1
    generalize hbt : bs (textT (.mk nm' l')) = bt at *
    have HBT := Lib.hid hbt
    clear hbt
    go_wp2_with (at_builtin; refine wpList_append_own _ rfl _ _ 44 rfl w.heap.size 9 i0 (.string ⟨#[]⟩) 1 16 Tryz.underlying44 HI0.out HZ0.out HZ1.out HZ2.out rfl (by decide) _ _ _ rfl HO2.out ⟨w4.heap.size, 0, none⟩ 1 1 [.string bt] rfl rfl ?c1 ?c2 ?c3 ?c4 ?c5 ?_)
    try (case c1 =>
      intro j u hj
      match j, hj with
      | 0, hj => simp at hj; subst hj; simp [Addr.add])
    case c2 => first | rfl | (intro u hu; simp at hu; subst hu; rfl)
    case c3 => unfold maxLen; omega
    case c4 => omega
    case c5 => first | omega | (simp; omega)
    intro v' w1 hown' hgrow _
    have HO5 := Lib.hid hown'
    have HB5 := Lib.hid ((HB4.out.alloc hsz4 (.cells #[.string bt] 9)).grown hgrow (by simp; omega) (fun k hk => (HO2.out.lt k hk).1))
    clear hown' hgrow
    go_wp2_with fail
    go_roundw
    case rel =>
      refine ⟨k + 1, by omega, by go_num, ?_, HB5.out⟩
      rw [HST.out, List.length_append, HN.out]
      unfold strCells at *
      rw [List.map_append, List.map_cons, List.map_nil, HBT.out]
      exact HO5.out
    case measure => simp [intOf]; omega

set_option maxHeartbeats 4000000 in
set_option maxRecDepth 100000 in
theorem rterms_text (w : World) (P : Nat → Prop) (A : Option Addr) (ca : Nat) (l : List Tm) (hl : l.length ≤ 1000000000) (ha : SlV TmV 2 w P A l) (hP : ∀ b, P b → b < w.heap.size) (hw : ∀ t ∈ l, wT t ≤ 400000000) (hm : ∀ k, (Lib.join (txs (l.take k)) [44, 32]).length ≤ 100000000) :
    Calls Tryz.prog 51 #[.slice A l.length ca] w (OutB w (.string (bs (Lib.join (txs l) [44, 32])))) := by
  obtain ⟨xs', hxl, harr, hel⟩ := ha
  have HV := Lib.hid (And.intro hxl (And.intro harr (And.intro hel (And.intro hP hw))))
  have HM := Lib.hid hm
  clear hxl harr hel hP hw hm
  go_enter Tryz.func51, Tryz.ntmps51
  go_wp2_with fail
  go_loopw [3, 4] (fun s i wr => ∃ k : Nat, k ≤ l.length ∧ i = .int .i64 k ∧ s = .string (bs (Lib.join (txs (l.take k)) [44, 32])) ∧ Hid (Below w.heap.size w wr)) (fun _ i _ => l.length - (intOf i).toNat)
  case atStart => exact ⟨0, Nat.zero_le _, rfl, rfl, Below.refl _ _⟩
  case round =>
    obtain ⟨k, hk, rfl, rfl, HI⟩ := hrel
    by_cases hlk : k < l.length
    rotate_left
    focus
      obtain rfl : k = l.length := by omega
      rw [List.take_length]
      go_wp2_with fail
      go_ret
      exact ⟨rfl, HI.out⟩
    obtain ⟨t, ht⟩ : ∃ t, l[k]? = some t := ⟨_, List.getElem?_eq_getElem hlk⟩
    obtain ⟨x, hx⟩ : ∃ x, xs'[k]? = some x := ⟨_, List.getElem?_eq_getElem (by rw [HV.out.1]; exact hlk)⟩
    have hv := HV.out.2.2.1 k x t hx ht
    obtain ⟨nm', A', cp', l', rfl, rfl⟩ := hv.form
    obtain ⟨b0, o0, rfl, hb0, hbl, hc⟩ := HV.out.2.1 (by rw [HV.out.1]; omega)
    have f0 := (HI.out.cell (p := ⟨b0, o0 + k * 2, none⟩) hbl).trans (hc k _ hx 0 _ rfl)
    have f1 := (HI.out.cell (p := ⟨b0, o0 + k * 2 + 1, none⟩) hbl).trans (hc k _ hx 1 _ rfl)
    have hst : Lib.join (txs (l.take (k + 1))) [44, 32] = if k = 0 then textT (.mk nm' l') else Lib.join (txs (l.take k)) [44, 32] ++ [44, 32] ++ textT (.mk nm' l') := by
      rw [txs_take ht, join_snoc]
      have he : (txs (l.take k)).isEmpty = decide (k = 0) := by
        unfold txs
        rw [List.isEmpty_map]
        cases k with
        | zero => rfl
        | succ k =>
          cases l with
          | nil => simp at hlk
          | cons a l => rfl
      rw [he]
      simp
    have hwt := HV.out.2.2.2.2 _ (List.mem_of_getElem? ht)
    have htl := textT_len (.mk nm' l')
    have hmk := HM.out k
    have CT := Lib.hid (fun (y : World) (hy : Below w.heap.size w y) => rtext_any _ (.mk nm' l') y P nm' A' cp' l' (Nat.le_refl _) rfl (hv.keep (fun b' hp hb' => ⟨hp, hy.block b' hb'⟩) hy.size) (fun b' hp => Nat.lt_of_lt_of_le (HV.out.2.2.2.1 b' hp) hy.size) hwt)
    clear hv hx hc ht
    by_cases hk0 : k = 0
    focus
      have d1 : decide ((0 : Int) < (k : Int)) = false := by simp; omega
      have d2 : ¬ 0 < k := by omega
      rw [if_pos hk0] at hst
      have HST := Lib.hid hst
      have hadd : ∀ y : World, (Op.stringOp .add (bs (Lib.join (txs (l.take k)) [44, 32])) (bs (textT (.mk nm' l')))).run Tryz.prog y = .ok (.string (bs (Lib.join (txs (l.take (k + 1))) [44, 32]))) y := fun y => by
        have := str_add_l (P := Tryz.prog) (w := y) (Lib.join (txs (l.take k)) [44, 32]) (textT (.mk nm' l')) (by omega)
        rw [HST.out]
        rw [hk0, List.take_zero] at this ⊢
        exact this
      clear hk0 hst hmk htl hwt
      generalize hq : bs (Lib.join (txs (l.take (k + 1))) [44, 32]) = s2 at *
      have HQ := Lib.hid hq
      clear hq
      generalize bs (Lib.join (txs (l.take k)) [44, 32]) = sk at *
      generalize bs (textT (.mk nm' l')) = st at *
      go_wp2_with fail
      refine (CT.out _ HI.out).mono ?_
      rintro e w5 ⟨rfl, hb⟩
      have HB5 := Lib.hid (HI.out.trans (hb.mono HI.out.size))
      clear hb
      go_wp2_with fail
      go_roundw
      case rel => exact ⟨k + 1, by omega, by go_num, by rw [HQ.out], HB5.out⟩
      case measure => simp [intOf]; omega
    have d1 : decide ((0 : Int) < (k : Int)) = true := by simp; omega
    have d2 : 0 < k := by omega
    rw [if_neg hk0] at hst
    have HST := Lib.hid hst
    have hadd1 : ∀ y : World, (Op.stringOp .add (bs (Lib.join (txs (l.take k)) [44, 32])) ⟨#[44, 32]⟩).run Tryz.prog y = .ok (.string (bs (Lib.join (txs (l.take k)) [44, 32] ++ [44, 32]))) y := fun y => str_add_l (Lib.join (txs (l.take k)) [44, 32]) [44, 32] (by simp; omega)
    have hadd : ∀ y : World, (Op.stringOp .add (bs (Lib.join (txs (l.take k)) [44, 32] ++ [44, 32])) (bs (textT (.mk nm' l')))).run Tryz.prog y = .ok (.string (bs (Lib.join (txs (l.take (k + 1))) [44, 32]))) y := fun y => by
      have := str_add_l (P := Tryz.prog) (w := y) (Lib.join (txs (l.take k)) [44, 32] ++ [44, 32]) (textT (.mk nm' l')) (by simp; omega)
      rw [HST.out]
      exact this
    clear hk0 hst hmk htl hwt
    generalize hq : bs (Lib.join (txs (l.take (k + 1))) [44, 32]) = s2 at *
    have HQ := Lib.hid hq
    clear hq
    generalize bs (Lib.join (txs (l.take k)) [44, 32] ++ [44, 32]) = s1 at *
    generalize bs (Lib.join (txs (l.take k)) [44, 32]) = sk at *
    generalize bs (textT (.mk nm' l')) = st at *
    go_wp2_with fail
    refine (CT.out _ HI.out).mono ?_
    rintro e w5 ⟨rfl, hb⟩
    have HB5 := Lib.hid (HI.out.trans (hb.mono HI.out.size))
    clear hb
    go_wp2_with fail
    go_roundw
    case rel => exact ⟨k + 1, by omega, by go_num, by rw [HQ.out], HB5.out⟩
    case measure => simp [intOf]; omega
end Go.Proofs.YtmplpbdldcokjaaGreatDoor
