/- The walks of the laws LexerJoins and LexerBack. -/
import Derived.Test.YtmpdnmnimdkfnaaDoorTq
namespace Go.Proofs.YtmpdnmnimdkfnaaDoor
open Go Go.RowKit Go.Shelf
set_option linter.unusedSimpArgs false

theorem join_len2 (xs : List (List UInt8)) (h : ∀ x ∈ xs, x.length ≤ 100) : (Lib.join xs [32]).length ≤ 101 * xs.length := by
  have ht : ∀ ys : List (List UInt8), (∀ x ∈ ys, x.length ≤ 100) → (Lib.joinTail [32] ys).length ≤ 101 * ys.length := by
    intro ys
    induction ys with
    | nil => intro _; simp [Lib.joinTail]
    | cons y ys ih =>
      intro h
      have h1 := ih fun x hx => h x (List.mem_cons_of_mem _ hx)
      have h2 := h y List.mem_cons_self
      unfold Lib.joinTail at *
      simp at h1 ⊢
      omega
  cases xs with
  | nil => rw [Lib.join_nil]; exact Nat.zero_le _
  | cons x r =>
    have h1 := ht r fun y hy => h y (List.mem_cons_of_mem _ hy)
    have h2 := h x List.mem_cons_self
    rw [Lib.join_cons, List.length_append, List.length_cons]
    omega
theorem joinF_len2 {l : List Tok} (h : ∀ t ∈ l, t.text.length ≤ 100) : (joinF l).length ≤ 101 * l.length := by
  have h1 := join_len2 (textsF l) (by
    intro x hx
    unfold textsF at hx
    obtain ⟨t, ht, rfl⟩ := List.mem_map.1 hx
    exact h t (List.mem_filter.1 ht).1)
  have h2 : (textsF l).length ≤ l.length := by unfold textsF; rw [List.length_map]; exact List.length_filter_le _ _
  unfold joinF
  omega

set_option maxHeartbeats 4000000 in
set_option maxRecDepth 100000 in
theorem law_joins (w : World) (A : Option Addr) (cap : Nat) (l : List Tok) (hl : l.length ≤ 9223372036854775807) (ha : TkJ w A l) (hw : Wd w) : Calls Tryd.prog 5 #[.slice A l.length cap] w (YesP w) := by
  have HW := Lib.hid hw
  have HA := Lib.hid ha
  clear hw ha
  by_cases h200 : (200 : Int) < (l.length : Int)
  focus
    have t1 : decide ((200 : Int) < (l.length : Int)) = true := by simpa using h200
    go_enter Tryd.func5, Tryd.ntmps5
    go_wp2_with fail
    refine (awake_any w HW.out).mono ?_
    rintro e w1 ⟨rfl, hb⟩
    go_wp2_with fail
    go_ret
    exact ⟨rfl, hb⟩
  have t1 : decide ((200 : Int) < (l.length : Int)) = false := by simpa using h200
  have hl2 : (l.length : Int) ≤ 200 := by omega
  clear h200
  go_enter Tryd.func5, Tryd.ntmps5
  go_wp2_with fail
  go_loop [3] (fun i => ∃ k : Nat, k ≤ l.length ∧ i = .int .i64 k ∧ Hid (∀ (j : Nat) (t : Tok), j < k → l[j]? = some t → t.text.length ≤ 100)) (fun i => l.length - (intOf i).toNat)
  case atStart => exact ⟨0, Nat.zero_le _, rfl, by intro j t hj; omega⟩
  case round =>
    obtain ⟨k, hk, rfl, HI⟩ := hrel
    by_cases hlk : k < l.length
    rotate_left
    focus
      obtain rfl : k = l.length := by omega
      have hall : ∀ t ∈ l, t.text.length ≤ 100 := by
        intro t ht
        obtain ⟨i, hi, rfl⟩ := List.getElem_of_mem ht
        exact HI.out i _ hi (List.getElem?_eq_getElem hi)
      have hj : (joinF l).length ≤ 140737488355328 := by have := joinF_len2 hall; omega
      have P := Lib.hid (fun y (hy : TkJ y A l) => join_any y A cap l (by omega) hy hj)
      have R := Lib.hid (fun y (hy : TkJ y A l) => rjoin_any y A cap l (by omega) hy hj)
      clear hall hj
      generalize bs (joinF l) = J at *
      go_wp2_with fail
      refine (P.out w HA.out).mono ?_
      rintro e w1 ⟨rfl, hb⟩
      have HB1 := Lib.hid hb
      have HW1 := Lib.hid (HW.out.b hb)
      have HA1 := Lib.hid (HA.out.keep hb)
      clear hb
      go_wp2_with fail
      refine (R.out w1 HA1.out).mono ?_
      rintro e w2 ⟨rfl, rfl⟩
      go_wp2_with fail
      refine (awake_any w1 HW1.out).mono ?_
      rintro e w4 ⟨rfl, hb⟩
      have HB4 := Lib.hid (HB1.out.trans (hb.mono HB1.out.size))
      clear hb
      go_wp2_with fail
      go_ret
      exact ⟨rfl, HB4.out⟩
    obtain ⟨b, o, kd, tx, ps, rfl, hbl, hlf, p0, p1, p2⟩ := HA.out.at k hlk
    have HT := Lib.hid hlf.2
    have hsz : (bs tx).size = tx.length := size_bs tx
    clear hlf p0 p2
    by_cases h100 : (100 : Int) < (tx.length : Int)
    focus
      have t2 : decide ((100 : Int) < ((bs tx).size : Int)) = true := by rw [hsz]; simpa using h100
      clear h100 hsz
      generalize bs tx = bt at *
      go_wp2_with fail
      refine (awake_any w HW.out).mono ?_
      rintro e w1 ⟨rfl, hb⟩
      go_wp2_with fail
      go_ret
      exact ⟨rfl, hb⟩
    focus
      have t2 : decide ((100 : Int) < ((bs tx).size : Int)) = false := by rw [hsz]; simpa using h100
      have HN : Hid (∀ (j : Nat) (t : Tok), j < k + 1 → l[j]? = some t → t.text.length ≤ 100) := by
        intro j t hj ht
        by_cases hjk : j < k
        · exact HI.out j t hjk ht
        · obtain rfl : j = k := by omega
          rw [List.getElem?_eq_getElem hlk] at ht
          cases ht
          rw [HT.out]
          omega
      clear h100 hsz HT
      generalize bs tx = bt at *
      go_wp2_with fail
      go_round
      case rel => exact ⟨k + 1, by omega, by go_num, HN⟩
      case measure => simp [intOf]; omega

theorem joinF_wf {l0 : List Tok} {n : Nat} (h : ∀ t ∈ l0, TokWf t) : joinF (l0 ++ [⟨0, [], n⟩]) = joinT l0 := by
  unfold joinF joinT textsF
  rw [List.filter_append]
  have h1 : l0.filter (fun t => t.kind != 0) = l0 := List.filter_eq_self.2 fun t ht => by rw [bne_iff_ne]; exact (h t ht).1
  rw [h1]
  simp
/-- the tokens of the joined text -/
theorem lex_back {l : List UInt8} {ts : List Tok} (h : lexF l = .ok ts) (hl : l.length ≤ 2000) : ∃ ms, lexF (joinF ts) = .ok ms ∧ ms.map tkey = ts.map tkey ∧ (joinF ts).length ≤ 4001 := by
  obtain ⟨l0, rfl, hwf, hlen, _⟩ := lexF_wf h
  rw [joinF_wf hwf]
  have h1 := joinT_len l0
  have h2 := lens_len l0 hwf
  obtain ⟨l', h3, h4⟩ := lexGo_join l0 hwf ((joinT l0).length + 1) 0 (by omega)
  refine ⟨_, by unfold lexF; rw [if_neg (by omega), h3], ?_, by omega⟩
  rw [List.map_append, List.map_append, h4]
  rfl

set_option maxHeartbeats 4000000 in
set_option maxRecDepth 100000 in
theorem law_back (w : World) (s : ByteArray) (hs : s.size ≤ 9223372036854775807) (hw : Wd w) : Calls Tryd.prog 7 #[.string s] w (YesP w) := by
  have HW := Lib.hid hw
  clear hw
  have hlen : s.data.toList.length = s.size := by simp
  by_cases hl : (2000 : Int) < (s.size : Int)
  focus
    have t1 : decide ((2000 : Int) < (s.size : Int)) = true := by simpa using hl
    clear hlen
    go_enter Tryd.func7, Tryd.ntmps7
    go_wp2_with fail
    refine (awake_any w HW.out).mono ?_
    rintro e w1 ⟨rfl, hb⟩
    go_wp2_with fail
    go_ret
    exact ⟨rfl, hb⟩
  have t1 : decide ((2000 : Int) < (s.size : Int)) = false := by simpa using hl
  cases hx : lexF s.data.toList with
  | err p x =>
    have P := Lib.hid (lexN_any hs hx)
    have hz : x ≠ 0 := lexF_nz hx
    have t2 : (x == 0) = false := beq_eq_false_iff_ne.2 hz
    have t3 : (x != 0) = true := bne_iff_ne.2 hz
    clear hx hlen hz
    go_enter Tryd.func7, Tryd.ntmps7
    go_wp2_with fail
    refine (P.out w HW.out).mono ?_
    rintro e w1 ⟨rfl, hb⟩
    have HB1 := Lib.hid hb
    have HW1 := Lib.hid (HW.out.b hb)
    clear hb
    go_wp2_with fail
    refine (awake_any w1 HW1.out).mono ?_
    rintro e w4 ⟨rfl, hb⟩
    have HB4 := Lib.hid (HB1.out.trans (hb.mono HB1.out.size))
    clear hb
    go_wp2_with fail
    go_ret
    exact ⟨rfl, HB4.out⟩
  | ok l =>
    obtain ⟨ms, hm, hkey, hjl⟩ := lex_back hx (by omega)
    have hln0 := (lexF_wf hx).choose_spec.2.2.2
    have hln : (l.length : Int) ≤ 1000000000 := by omega
    have hlm : ms.length = l.length := by have := congrArg List.length hkey; simpa using this
    have P := Lib.hid (lexO_any hs hx)
    have J := Lib.hid (fun y cap (A : Option Addr) (hy : TkJ y A l) => join_any y A cap l hln hy (by omega))
    have P2 := Lib.hid (lexO_any (s := bs (joinF l)) (by rw [size_bs]; omega) (by rw [toList_bs]; exact hm))
    have HK := Lib.hid hkey
    have HLM := Lib.hid hlm
    generalize bs (joinF l) = JS at *
    clear hx hm hkey hjl hln0 hlen hlm
    go_enter Tryd.func7, Tryd.ntmps7
    go_wp2_with fail
    refine (P.out w HW.out).mono ?_
    rintro e w1 ⟨g, cap, rfl, hb, htk⟩
    have HB1 := Lib.hid hb
    have HW1 := Lib.hid (HW.out.b hb)
    have HT1 := Lib.hid htk
    clear hb htk
    go_wp2_with fail
    refine (J.out w1 _ _ HT1.out.j).mono ?_
    rintro e w2 ⟨rfl, hb⟩
    have HB2 := Lib.hid (HB1.out.trans (hb.mono HB1.out.size))
    have HW2 := Lib.hid (HW1.out.b hb)
    have HT2 := Lib.hid (HT1.out.keep hb)
    clear hb
    go_wp2_with fail
    refine (P2.out w2 HW2.out).mono ?_
    rintro e w3 ⟨g2, cap2, rfl, hb, htk⟩
    rw [HLM.out]
    have HB3 := Lib.hid (HB2.out.trans (hb.mono HB2.out.size))
    have HW3 := Lib.hid (HW2.out.b hb)
    have HT3 := Lib.hid (HT2.out.keep hb)
    have HM3 := Lib.hid htk
    clear hb htk
    go_wp2_with fail
    go_loopw [9] (fun i wr => ∃ k : Nat, k ≤ l.length ∧ i = .int .i64 k ∧ Hid (Below w3.heap.size w3 wr)) (fun i _ => l.length - (intOf i).toNat)
    case atStart => exact ⟨0, Nat.zero_le _, rfl, Below.refl _ _⟩
    case round =>
      obtain ⟨k, hk, rfl, HI⟩ := hrel
      by_cases hlk : k < l.length
      · obtain ⟨b, o, kd, tx, ps, hA, hbl, hlf, p0, p1, p2⟩ := (HT3.out.keep HI.out).at k hlk
        obtain ⟨b', o', kd', tx', ps', hA', hbl', hlf', p0', p1', p2'⟩ := (HM3.out.keep HI.out).at k (by rw [HLM.out]; exact hlk)
        simp only [Option.some.injEq, Addr.mk.injEq, and_true] at hA hA'
        obtain ⟨rfl, rfl⟩ := hA
        obtain ⟨rfl, rfl⟩ := hA'
        have hmk : k < ms.length := by rw [HLM.out]; exact hlk
        have hke : tkey ms[k] = tkey l[k] := by
          have h1 : (ms.map tkey)[k]? = (l.map tkey)[k]? := by rw [HK.out]
          rw [List.getElem?_map, List.getElem?_map, List.getElem?_eq_getElem hlk, List.getElem?_eq_getElem (by rw [HLM.out]; exact hlk)] at h1
          simpa using h1
        rw [hlf, hlf'] at hke
        clear hmk
        unfold tkey at hke
        simp only [Prod.mk.injEq] at hke
        obtain ⟨rfl, rfl⟩ := hke
        clear hlf hlf' p2 p2'
        simp only [Nat.zero_add] at p0 p1 p0' p1'
        generalize bs tx' = bt at *
        go_wp2_with fail
        go_quiet (fail)
        clear p0 p1 p0' p1'
        go_wp2_with fail
        go_roundw
        case rel => exact ⟨k + 1, by omega, by go_num, below_drewN HI.out nq⟩
        case measure => simp [intOf]; omega
      · go_wp2_with fail
        refine (awake_any wr (HW3.out.b HI.out)).mono ?_
        rintro e w4 ⟨rfl, hb⟩
        have HB4 := Lib.hid ((HB3.out.trans (HI.out.mono HB3.out.size)).trans (hb.mono (Nat.le_trans HB3.out.size HI.out.size)))
        clear hb
        go_wp2_with fail
        go_ret
        exact ⟨rfl, HB4.out⟩
end Go.Proofs.YtmpdnmnimdkfnaaDoor
